import Derived.Shelf.LaysM
import Derived.Shelf.Strconv.Itoa3
import Derived.Test.YtjpkdegjcilndaaGreatDoorProg
import Derived.WalkKit
import Derived.WalkSpells
import Derived.WalkLawsBesides
import Derived.OrdersIn
import Derived.LoopNIn
import Derived.TacticsIn
import Derived.RangeFuncCalls
import Derived.Lib.Hide
import Derived.KernelRfl
import Derived.Maps.AppendAt
import Derived.Deep.AppendLies
import Derived.ChangeMaps5
import Derived.JoinedOf
import Derived.Test.YtjpkdegjcilndaaGreatDoorRows
import Derived.LoopN
import Derived.Laws.CopyRow
import Derived.Laws.Rows
import Derived.Great.FillDense
import Derived.ProofKit
import Derived.OpenShut
import Derived.JoinedCond
import Derived.Carry
import Derived.ChangeSame
import Derived.Lib.Bytealg
namespace Go.Proofs.YtjpkdegjcilndaaGreatDoor
abbrev BA:=ByteArray
theorem qa.{u0,u1}:type_of% @Option.bind_some.{u0,u1}:=@Option.bind_some.{u0,u1}
theorem qb.{u0}:type_of% @List.getElem?_eq_getElem.{u0}:=@List.getElem?_eq_getElem.{u0}
theorem qc.{u0}:type_of% @Option.some.injEq.{u0}:=@Option.some.injEq.{u0}
theorem qd.{u0}:type_of% @cond_false.{u0}:=@cond_false.{u0}
theorem qe.{u0}:type_of% @cond_true.{u0}:=@cond_true.{u0}
theorem qf:type_of% @decide_eq_false:=@decide_eq_false
theorem qg.{u0}:type_of% @List.getElem?_eq_some_iff.{u0}:=@List.getElem?_eq_some_iff.{u0}
theorem qh.{u0}:type_of% @List.mem_cons_of_mem.{u0}:=@List.mem_cons_of_mem.{u0}
theorem qi.{u0}:type_of% @if_neg.{u0}:=@if_neg.{u0}
theorem qj:type_of% @decide_eq_true:=@decide_eq_true
theorem qk:type_of% @Nat.eq_of_beq_eq_true:=@Nat.eq_of_beq_eq_true
theorem ql.{u0,u1}:type_of% @Option.bind_eq_some_iff.{u0,u1}:=@Option.bind_eq_some_iff.{u0,u1}
theorem qn.{u0}:type_of% @List.mem_of_getElem?.{u0}:=@List.mem_of_getElem?.{u0}
theorem qo.{u0}:type_of% @if_pos.{u0}:=@if_pos.{u0}
theorem qp:type_of% @Bool.and_eq_true:=@Bool.and_eq_true
theorem qq.{u0,u1}:type_of% @List.getElem?_map.{u0,u1}:=@List.getElem?_map.{u0,u1}
theorem qr.{u0}:type_of% @List.all_eq_true.{u0}:=@List.all_eq_true.{u0}
theorem qs:type_of% @Nat.le_of_ble_eq_true:=@Nat.le_of_ble_eq_true
theorem qt.{u0,u1}:type_of% @Option.map_eq_some_iff.{u0,u1}:=@Option.map_eq_some_iff.{u0,u1}
theorem qu.{u0}:type_of% @List.mem_cons_self.{u0}:=@List.mem_cons_self.{u0}
theorem qv.{u0,u1}:type_of% @Prod.mk.injEq.{u0,u1}:=@Prod.mk.injEq.{u0,u1}
theorem qw.{u0}:type_of% @Option.some.inj.{u0}:=@Option.some.inj.{u0}
theorem qx:type_of% @Nat.le_refl:=@Nat.le_refl
theorem qy.{u0}:type_of% @List.length_cons.{u0}:=@List.length_cons.{u0}
theorem q9.{u0}:type_of% @List.getElem_mem.{u0}:=@List.getElem_mem.{u0}
theorem qaa.{u0,u1}:type_of% @List.length_map.{u0,u1}:=@List.length_map.{u0,u1}
theorem qab.{u0}:type_of% @List.getElem?_take.{u0}:=@List.getElem?_take.{u0}
theorem qac.{u0}:type_of% @List.mem_cons.{u0}:=@List.mem_cons.{u0}
theorem qad.{u0}:type_of% @List.getElem?_append_left.{u0}:=@List.getElem?_append_left.{u0}
theorem qae.{u0}:type_of% @List.getElem?_append_right.{u0}:=@List.getElem?_append_right.{u0}
theorem qaf.{u0,u1,u2}:type_of% @Sum.elim_inl.{u0,u1,u2}:=@Sum.elim_inl.{u0,u1,u2}
theorem qag.{u0}:type_of% @List.getElem?_cons_succ.{u0}:=@List.getElem?_cons_succ.{u0}
theorem qah.{u0}:type_of% @List.length_append.{u0}:=@List.length_append.{u0}
theorem qai.{u0}:type_of% @List.mem_iff_getElem.{u0}:=@List.mem_iff_getElem.{u0}
theorem qaj:type_of% @Nat.zero_le:=@Nat.zero_le
theorem qak.{u0}:type_of% @Array.getElem?_eq_some_iff.{u0}:=@Array.getElem?_eq_some_iff.{u0}
theorem qal.{u0}:type_of% @Array.length_toList.{u0}:=@Array.length_toList.{u0}
theorem qam.{u0}:type_of% @Array.getD_eq_getD_getElem?.{u0}:=@Array.getD_eq_getD_getElem?.{u0}
theorem qan.{u0}:type_of% @List.drop_eq_getElem_cons.{u0}:=@List.drop_eq_getElem_cons.{u0}
theorem qao.{u0}:type_of% @List.getElem?_drop.{u0}:=@List.getElem?_drop.{u0}
theorem qap:type_of% @Int.toNat_natCast:=@Int.toNat_natCast
theorem qaq.{u0}:type_of% @List.getElem?_eq_none.{u0}:=@List.getElem?_eq_none.{u0}
theorem qar.{u0}:type_of% @beq_eq_false_iff_ne.{u0}:=@beq_eq_false_iff_ne.{u0}
theorem qas.{u0,u1}:type_of% @List.mem_map.{u0,u1}:=@List.mem_map.{u0,u1}
theorem qat.{u0}:type_of% @Array.getElem?_toList.{u0}:=@Array.getElem?_toList.{u0}
theorem qau.{u0}:type_of% @List.mem_append.{u0}:=@List.mem_append.{u0}
theorem qav:type_of% @Nat.le_trans:=@Nat.le_trans
theorem qaw.{u0}:type_of% @List.length_take.{u0}:=@List.length_take.{u0}
theorem qax:type_of% @Int.eq_ofNat_of_zero_le:=@Int.eq_ofNat_of_zero_le
theorem qay.{u0,u1,u2}:type_of% @Sum.elim_inr.{u0,u1,u2}:=@Sum.elim_inr.{u0,u1,u2}
theorem qaz.{u0}:type_of% @List.length_singleton.{u0}:=@List.length_singleton.{u0}
theorem qa0.{u0,u1}:type_of% @List.map_cons.{u0,u1}:=@List.map_cons.{u0,u1}
theorem qa1.{u0,u1}:type_of% @List.mem_flatMap.{u0,u1}:=@List.mem_flatMap.{u0,u1}
theorem qa2.{u0}:type_of% @List.mem_singleton.{u0}:=@List.mem_singleton.{u0}
theorem qa3.{u0}:type_of% @bne_eq_false_iff_eq.{u0}:=@bne_eq_false_iff_eq.{u0}
theorem qa4:type_of% @Nat.mul_le_mul_right:=@Nat.mul_le_mul_right
theorem qa5.{u0}:type_of% @List.eq_nil_of_length_eq_zero.{u0}:=@List.eq_nil_of_length_eq_zero.{u0}
theorem qa6.{u0,u1}:type_of% @Option.map_some.{u0,u1}:=@Option.map_some.{u0,u1}
theorem qa7.{u0}:type_of% @Array.getElem?_append_left.{u0}:=@Array.getElem?_append_left.{u0}
theorem qa8:type_of% @Nat.lt_of_lt_of_le:=@Nat.lt_of_lt_of_le
theorem qa9.{u0}:type_of% @List.length_drop.{u0}:=@List.length_drop.{u0}
theorem qba.{u0}:type_of% @bne_iff_ne.{u0}:=@bne_iff_ne.{u0}
theorem qbb:type_of% @Nat.lt_or_ge:=@Nat.lt_or_ge
theorem qbc:type_of% @Nat.add_mul:=@Nat.add_mul
theorem qbd:type_of% @Nat.le_of_lt:=@Nat.le_of_lt
theorem qbe.{u0}:type_of% @List.drop_eq_nil_of_le.{u0}:=@List.drop_eq_nil_of_le.{u0}
theorem qbf.{u0}:type_of% @Array.getElem?_eq_getElem.{u0}:=@Array.getElem?_eq_getElem.{u0}
theorem qbg.{u0}:type_of% @List.ext_getElem?.{u0}:=@List.ext_getElem?.{u0}
theorem qbh.{u0}:type_of% @List.append_assoc.{u0}:=@List.append_assoc.{u0}
theorem qbi:type_of% @Nat.mul_one:=@Nat.mul_one
theorem qbj.{u0}:type_of% @Option.getD_some.{u0}:=@Option.getD_some.{u0}
theorem qbk:type_of% @List.mem_range:=@List.mem_range
theorem qbl:type_of% @of_decide_eq_false:=@of_decide_eq_false
theorem qbm.{u0}:type_of% @Array.ext'.{u0}:=@Array.ext'.{u0}
theorem qbn.{u0}:type_of% @List.length_nil.{u0}:=@List.length_nil.{u0}
theorem qbo:type_of% @Bool.not_true:=@Bool.not_true
theorem qbp:type_of% @Bool.not_eq_true':=@Bool.not_eq_true'
theorem qbq.{u0}:type_of% @List.mem_of_mem_drop.{u0}:=@List.mem_of_mem_drop.{u0}
theorem qbr.{u0}:type_of% @List.mem_of_mem_take.{u0}:=@List.mem_of_mem_take.{u0}
theorem qbs:type_of% @Nat.sub_self:=@Nat.sub_self
theorem qbt:type_of% @of_decide_eq_true:=@of_decide_eq_true
theorem qbu.{u0}:type_of% @List.mem_replicate.{u0}:=@List.mem_replicate.{u0}
theorem qbv.{u0}:type_of% @List.getElem?_set_self.{u0}:=@List.getElem?_set_self.{u0}
theorem qbw.{u0,u1,u2}:type_of% @List.foldlM_cons.{u0,u1,u2}:=@List.foldlM_cons.{u0,u1,u2}
theorem qbx:type_of% @decide_eq_true_eq:=@decide_eq_true_eq
theorem qby.{u0}:type_of% @List.length_replicate.{u0}:=@List.length_replicate.{u0}
theorem qbz.{u0}:type_of% @List.mem_iff_getElem?.{u0}:=@List.mem_iff_getElem?.{u0}
theorem qb0.{u0,u1}:type_of% @List.map_append.{u0,u1}:=@List.map_append.{u0,u1}
theorem qb1:type_of% @Bool.or_eq_true:=@Bool.or_eq_true
set_option linter.all false
open Go Go.Proofs
open Go.Shelf
set_option linter.unusedSectionVars false
open Go Go.RowKit
class Rd where
  r:Option Nat
instance (priority:=low) rd0:Rd:=⟨none⟩
section
variable [Rd] {P:Program}
def Fd:Fence:={ fn:=fun _=>True,depth:=none,alive:=false,round:=Rd.r }
def Cwp (P:Program) (c:Code) (Q:Exit->Act->World->Prop) (a:Act) (w:World):Prop:=c.wpIn Fd 0 P Q a w
def Owp (P:Program) (o:Oper) (a:Act) (w:World) (next:Act->World->Prop) (Q:Exit->Act->World->Prop):Prop:=o.wpIn Fd 0 P a w next Q
theorem calls_fd {n:Nat} {f:FuncId} {args:Array Value} {w:World} {R:Ending->World->Prop}:CallsIn Fd n P f args w R↔Calls P f args w R:=callsIn_wide (n:=n)
theorem k0u {n:Nat} {f:FuncId} {args:Array Value} {w:World} {R:Ending->World->Prop} (h:Calls P f args w R):CallsIn Fd n P f args w R:=calls_fd.2 h
theorem kco {c:Code} {Q Q':Exit->Act->World->Prop} {a:Act} {w:World} (h:Cwp P c Q a w) (b:∀ e a w,Q e a w->Q' e a w):Cwp P c Q' a w:=wpIn_mono h b
theorem k9y {Q:Exit->Act->World->Prop} {a:Act} {w:World} (h:Q .normal a w):Cwp P .skip Q a w:=wpIn_skip h
theorem kafo {l:Nat} {Q:Exit->Act->World->Prop} {a:Act} {w:World} (h:Q .normal a w):Cwp P (.label l) Q a w:=wpIn_label h
theorem kaaq {id:Nat} {Q:Exit->Act->World->Prop} {a:Act} {w:World} (h:Q (.exit id) a w):Cwp P (.exit id) Q a w:=wpIn_exit h
theorem kael {Q:Exit->Act->World->Prop} {a:Act} {w:World} (h:Q .ret a w):Cwp P .ret Q a w:=wpIn_ret h
theorem kxn {x y:Code} {Q:Exit->Act->World->Prop} {a:Act} {w:World} (h:Cwp P x (Exit.then (Cwp P y Q) Q) a w):Cwp P (.seq x y) Q a w:=wpIn_seq h
theorem k94 {c:Operand} {x y:Code} (t:Bool) {Q:Exit->Act->World->Prop} {a:Act} {w:World} (hc:a.eval c = .bool t) (h:Cwp P (if t then x else y) Q a w):Cwp P (.cond c x y) Q a w:=wpIn_cond hc h
theorem kz6 {id:Nat} {c:Code} {Q:Exit->Act->World->Prop} {a:Act} {w:World} (h:Cwp P c (Exit.inBlock id Q) a w):Cwp P (.block id c) Q a w:=wpIn_block h
def kkz (P:Program) (c:Code) (Q:Exit->Act->World->Prop):Nat->Act->World->Prop
  | 0,_,_=>False
  | n+1,a,w=>Cwp P c (Exit.then (kkz P c Q n) Q) a w
theorem kmt {Q:Exit->Act->World->Prop} {n:Nat} {a:Act} {w:World} {c:Code}:kkz P c Q (n+1) a w=Cwp P c (Exit.then (kkz P c Q n) Q) a w:=rfl
theorem k4i {c:Code} {Q:Exit->Act->World->Prop}:∀ (n:Nat) (a:Act) (w:World),kkz P c Q n a w->Code.roundsIn Fd 0 P c Q n a w
  | 0,_,_,h=>h
  | n+1,a,w,h=>wpIn_mono h fun e a w q=>by cases e <;> first | exact k4i n a w q | exact q
theorem koz {Q:Exit->Act->World->Prop} {a:Act} {w:World} {c:Code} (n:Nat) (h:kkz P c Q n a w):Cwp P (.loop c) Q a w:=wpIn_loop_rounds n (k4i n a w h)
theorem k6x {o:Oper} {a:Act} {w:World} {K K':Act->World->Prop} {Q Q':Exit->Act->World->Prop} (h:∀ a w,K a w->K' a w) (i:∀ e a w,e ≠ .normal->Q e a w->Q' e a w) (b:Owp P o a w K Q):Owp P o a w K' Q':=by
  unfold Owp Oper.wpIn at b ⊢;refine ⟨b.1,?_⟩;have b:=b.2;generalize (o.semAt Fd.round a.eval).run P w=r at b ⊢;have hl:LetsOut Q->LetsOut Q':=fun ⟨a',w',j⟩=>⟨a',w',i _ _ _ (fun e=>nomatch e) j⟩;cases r with
  | ok n w'=>
    cases n <;> simp only [Oper.uponIn] at b ⊢
    case value v=>exact h _ _ b
    case skip=>exact h _ _ b
    case defer d=>exact h _ _ b
    case enter f args=>
      refine ⟨b.1,b.2.mono fun e w'' g=>?_⟩;cases e with
      | returned v=>exact h _ _ g
      | panicked c=>exact i _ _ _ (fun e=>nomatch e) g
      | outgrown=>exact hl g
    case row r args=>exact ⟨b.1,b.2.mono fun v w'' g=>h _ _ g⟩
    case round l f tmps assign body=>
      refine ⟨b.1,b.2.mono fun e w'' g=>?_⟩;cases e with
      | returned v=>exact h _ _ g
      | panicked c=>exact i _ _ _ (fun e=>nomatch e) g
      | outgrown=>exact hl g
  | halt x w'=>
    cases x <;> simp only [Oper.uponIn] at b ⊢;exact i _ _ _ (fun e=>nomatch e) b
theorem k3c {o:Oper} {a:Act} {w:World} {K K':Act->World->Prop} {Q Q':Exit->Act->World->Prop} (h:∀ a w,K a w->K' a w) (b:∀ e a w,Q e a w->Q' e a w) (c:Owp P o a w K Q):Owp P o a w K' Q':=k6x h (fun e a w _ k=>b e a w k) c
def kbg (P:Program) (ops:Array Oper) (Q:Exit->Act->World->Prop):List Oper->Act->World->Prop
  | [],a,w=>Q .normal a w
  | o::rest,a,w=>if Region.wanted o (yielded ops a.tmps) then Owp P o a w (kbg P ops Q rest) Q else kbg P ops Q rest (a.put o.dst undef) w
theorem kdn {ops:Array Oper} {Q Q':Exit->Act->World->Prop} (b:∀ e a w,Q e a w->Q' e a w):∀ (l:List Oper) (a:Act) (w:World),kbg P ops Q l a w->kbg P ops Q' l a w
  | [],a,w,h=>b _ _ _ h
  | o::l,a,w,h=>by
    unfold kbg at h ⊢;split at h
    · rename_i c
      rw [qo c];exact k3c (kdn b l) b h
    · rename_i c
      rw [qi c];exact kdn b l _ _ h
theorem kwy {ops:Array Oper} {Q:Exit->Act->World->Prop}:∀ (l:List Oper) (a:Act) (w:World),kbg P ops Q l a w->wpListIn Fd 0 P ops Q l a w
  | [],a,w,h=>h
  | o::l,a,w,h=>by
    unfold kbg at h;unfold wpListIn;split at h
    · rename_i b
      rw [qo b];exact k3c (kwy l) (fun _ _ _ h=>h) h
    · rename_i b
      rw [qi b];exact ⟨fun _ _=>trivial,kwy l _ _ h⟩
theorem ko7 {id:Nat} {ops:Array Oper} {Q:Exit->Act->World->Prop} {a:Act} {w:World} (h:kbg P ops Q ops.toList a w):Cwp P (.region id ops false) Q a w:=wpIn_region_list (kwy _ _ _ h)
def wpOp (P:Program) (ops:Array Oper) (Q:Exit->Act->World->Prop) (i:Nat) (K:Act->World->Prop) (a:Act) (w:World):Prop:=
  match ops[i]? with
  | none=>K a w
  | some o=>if Region.wanted o (yielded ops a.tmps) then Owp P o a w K Q else K (a.put o.dst undef) w
theorem knj {ops:Array Oper} {Q:Exit->Act->World->Prop} {i:Nat} {a:Act} {w:World} {K K':Act->World->Prop} (h:∀ a w,K a w->K' a w) (b:wpOp P ops Q i K a w):wpOp P ops Q i K' a w:=by
  unfold wpOp at *
  split
  · exact h _ _ (by simpa [*] using b)
  · rename_i o d
    simp only [d] at b;split
    · rename_i c;simp only [c,if_true] at b;exact k3c h (fun _ _ _ h=>h) b
    · rename_i c;simp only [c] at b;exact h _ _ b
def kqx (P:Program) (md:Region.Mode) (ops:Array Oper) (Q:Exit->Act->World->Prop):Nat->Array Bool->Act->World->Prop
  | 0,listed,a,w=>Region.ready md ops listed=[]/\Q .normal a w
  | fuel+1,listed,a,w=>
    (Region.ready md ops listed=[]->Q .normal a w) /\
    ∀ i∈Region.ready md ops listed,wpOp P ops Q i (kqx P md ops Q fuel (listed.setIfInBounds i true)) a w
theorem k6r {md:Region.Mode} {ops:Array Oper} {Q:Exit->Act->World->Prop}:∀ (fuel:Nat) (listed:Array Bool) (a:Act) (w:World),kqx P md ops Q fuel listed a w->wpAnyIn Fd 0 P md ops Q fuel listed a w
  | 0,_,_,_,h=>h
  | fuel+1,listed,a,w,h=>⟨h.1,fun i hi=>by
    have b:=knj (k6r fuel (listed.setIfInBounds i true)) (h.2 i hi);unfold wpOp at b;unfold wpOpIn;split at b
    · rename_i c;simp only [c];exact b
    · rename_i o c
      simp only [c];split at b
      · rename_i d;rw [qo d];exact b
      · rename_i d;rw [qi d];exact ⟨fun _ _=>trivial,b⟩⟩
theorem k5i {id:Nat} {ops:Array Oper} {Q:Exit->Act->World->Prop} {a:Act} {w:World} (hm:P.follows .mixedOrders=true) (h:kqx P .any ops Q ops.size (Array.replicate ops.size false) a w.drew):Cwp P (.region id ops true) Q a w:=
  wpIn_region_any hm (k6r _ _ _ _ h)
end
theorem wp_wide {P:Program} {c:Code} {Q:Exit->Act->World->Prop} {a:Act} {w:World}:@Cwp rd0 P c Q a w↔c.wp P Q a w:=wpIn_wide (n:=0)
class Dr where
  on:Bool
instance (priority:=low) dr0:Dr:=⟨false⟩
theorem kaex {α:Type} (q:Ask α):∀ w:World,w.drawn<=(w.ask q).2.drawn:=by
  induction q with
  | done a=>intro w;exact qx _
  | ask what range k ih=>
    intro w;rw [World.ask];split
    · exact ih 0 w
    · have q:=ih ((Question.extern what range).cut (w.tape w.drawn (Question.extern what range))) { w with drawn:=w.drawn+1 }
      exact qav (Nat.le_succ w.drawn) q
theorem kadb {P:Program} {w w':World} {a:Addr} {v:Value} {b:Bool} {l:List Addr} (h:w.farStore P a v b = .ok (w',l)):w'.drawn=w.drawn:=by
  unfold World.farStore at h;split at h
  · split at h
    · rename_i hr
      injection h with h;subst h;unfold World.viewStore at hr;simp only [bind,Except.bind,pure,Except.pure] at hr
      repeat' split at hr
      all_goals first | (cases hr;done) | (injection hr with hr;injection hr with hr _;subst hr;rfl) | skip
    · cases h
  · cases h
theorem kacg {α:Type} {P:Program} (s:Sem α):∀ (w w':World) (v:α),s.run P w = .ok v w'->w.drawn<=w'.drawn:=by
  induction s with
  | pure a=>intro w w' v h;rw [Sem.run] at h;cases h;exact qx _
  | load m a k ih=>
    intro w w' v h;rw [Sem.run] at h;split at h
    · (have q:=ih _ _ _ _ h;exact q)
    · split at h
      · (have q:=ih _ _ _ _ h;exact q)
      · cases h
  | store m a x k ih=>
    intro w w' v h;by_cases h1:∃ c,x = .agg c
    · obtain ⟨c,rfl⟩:=h1
      rw [Sem.run] at h;cases h
    by_cases d:∃ c,x = .tuple c
    · obtain ⟨c,rfl⟩:=d
      rw [Sem.run] at h;cases h
    rw [Sem.run] at h
    · split at h
      · split at h
        · cases h
        · (have q:=ih _ _ _ h;exact q)
      · split at h
        · rename_i f;(have q:=ih _ _ _ h;rw [kadb f] at q;exact q)
        · cases h
    · exact fun c e=>h1 ⟨c,e⟩
    · exact fun c e=>d ⟨c,e⟩
  | new o k ih=>intro w w' v h;rw [Sem.run] at h;(have q:=ih _ _ _ _ h;exact q)
  | shape r k ih=>intro w w' v h;rw [Sem.run] at h;(have q:=ih _ _ _ _ h;exact q)
  | freeze a n k ih=>intro w w' v h;rw [Sem.run] at h;have:=ih _ _ _ h;unfold World.freeze at this;split at this <;> exact this
  | frozen a k ih=>intro w w' v h;rw [Sem.run] at h;(have q:=ih _ _ _ _ h;exact q)
  | getObj r k ih=>
    intro w w' v h;rw [Sem.run] at h;split at h
    · cases h
    · (have q:=ih _ _ _ _ h;exact q)
    · cases h
  | setObj r o k ih=>
    intro w w' v h;rw [Sem.run] at h;split at h
    · cases h
    · (have q:=ih _ _ _ h;exact q)
    · cases h
  | choose q k ih=>
    intro w w' v h;rw [Sem.run] at h;split at h
    · (have q:=ih _ _ _ _ h;exact q)
    · have q:=ih _ _ _ _ h
      exact qav (Nat.le_succ w.drawn) q
  | sys c k ih=>
    intro w w' v h;rw [Sem.run] at h;have q:=ih _ _ _ _ h;refine qav ?_ q;unfold World.sys;have:=kaex (Kernel.perform c w.os) w;split
    · exact qx _
    · rename_i b
      rw [b] at this;exact this
  | program k ih=>intro w w' v h;rw [Sem.run] at h;(have q:=ih _ _ _ _ h;exact q)
  | mark m k ih=>intro w w' v h;rw [Sem.run] at h;(have q:=ih _ _ _ h;exact q)
  | halt y=>intro w w' v h;rw [Sem.run] at h;cases h
theorem ksi {α:Type} {P:Program} {s:Sem α} {w w':World} {v:α} (h:s.run P w = .ok v w'):w.drawn<=w'.drawn:=kacg s w w' v h
variable [Dr]
structure Below (B:Nat) (w w':World):Prop extends RowKit.Below B w w' where
  drawn:Dr.on=true->w.drawn<=w'.drawn
omit [Dr] in
theorem no0 {p:Prop} (d:@Dr.on dr0=true):p:=by have d:false=true:=d;cases d
theorem Below.kit {B:Nat} {w w':World} (hd:Dr.on=false) (h:RowKit.Below B w w'):Below B w w':=⟨h,fun d=>by rw [hd] at d;cases d⟩
theorem Below.refl (B:Nat) (w:World):Below B w w:=⟨.refl _ _,fun _=>qx _⟩
theorem Below.trans {B:Nat} {a b c:World} (h:Below B a b) (k:Below B b c):Below B a c:=⟨h.toBelow.trans k.toBelow,fun d=>qav (h.drawn d) (k.drawn d)⟩
theorem Below.mono {B B':Nat} {w w':World} (h:Below B w w') (a:B'<=B):Below B' w w':=⟨h.toBelow.mono a,h.drawn⟩
theorem Below.drew {B:Nat} {a w:World} (h:Below B a w):Below B a w.drew:=⟨h.toBelow.drew,fun d=>Nat.le_succ_of_le (h.drawn d)⟩
theorem Below.alloc {B:Nat} {a w:World} (h:Below B a w) (b:B<=w.heap.size) (o:Obj):Below B a (w.alloc o):=⟨h.toBelow.alloc b o,h.drawn⟩
inductive Gd where
  | det (c:Value)
  | rel (G:Value->World->Prop) (h:∀ v w w',G v w->Below w.heap.size w w'->G v w')
def Gd.holds:Gd->Value->World->Prop
  | .det c,v,_=>v=c
  | .rel G _,v,w=>G v w
def RetBy (R:Value->World->Prop) (e:Ending) (w:World):Prop:=∃ u,e = .returned u/\R u w
def knm (P:Program) (R:Value->World->Prop):Result Next->Prop
  | .ok (.value u) w'=>R u w'
  | .ok .skip w'=>R undef w'
  | .ok (.enter f args) w'=>Calls P f args w' (RetBy R)
  | _=>False
def ket (P:Program) (o:Oper) (a:Act) (w:World) (R:Value->World->Prop):Prop:=knm P R ((execOp a.eval o).run P w)
def ki8 (o:Oper) (j:Nat):Bool:=o.after.toList.any fun e=>e.on == j && Region.binds .any e
def kq6 (l:List Oper):Array Nat:=
  l.foldl (fun acc o=>acc.push (o.after.toList.foldl (fun s e=>if Region.binds .any e then s ||| 2 ^ e.on ||| acc.getD e.on 0 else s) 0)) #[]
def k57 (l:List Oper) (n s:Nat):Bool:=
  Region.noSelect l.toArray && decide (n<=l.length) &&
  (l.zipIdx.all fun (o,k)=>o.after.toList.all fun e=>!Region.binds .any e || decide (e.on<k)) &&
  ((l.take n).all fun o=>match o.dst with | some d=>decide (d<s) | none=>true) &&
  ((l.take n).zipIdx.all fun (o,i)=>(l.take n).zipIdx.all fun (p,j)=>i == j || o.dst.isNone || o.dst != p.dst) &&
  ((l.take n).zipIdx.all fun (o,i)=>(o.looksAt l.toArray).all fun t=>(l.take n).zipIdx.all fun (p,j)=>i == j || p.dst != some t || ki8 o j || ki8 p i)
def relB (l:List Oper) (n s:Nat):Bool:=
  let m:=kq6 l
  k57 l n s && (l.zipIdx.all fun (_,k)=>decide (k<n) || (List.range k).all fun j=>(m.getD k 0).testBit j)
variable {P:Program}
theorem kls {o:Oper} {a:Act} {w:World} {R R':Value->World->Prop} (h:∀ v w',R v w'->R' v w') (b:ket P o a w R):ket P o a w R':=by
  unfold ket at *
  generalize (execOp a.eval o).run P w=r at *
  cases r with
  | ok n w'=>
    cases n <;> simp only [knm] at b ⊢
    case enter f args=>exact b.mono fun e w'' ⟨u,c,d⟩=>⟨u,c,h _ _ d⟩
    all_goals exact h _ _ b
  | halt x w'=>simp only [knm] at b
theorem kyt [Rd] {o:Oper} {a:Act} {w:World} {r:Result Next} {K:Act->World->Prop} {Q:Exit->Act->World->Prop} (hn:∀ c,o.op ≠ .defer c) (hr:(execOp a.eval o).run P w=r) (h:o.uponIn Fd 0 P a K Q r):Owp P o a w K Q:=by
  refine ⟨fun _ _=>trivial,?_⟩;have e:o.semAt Fd.round a.eval=execOp a.eval o:=by
    cases b:Fd.round with
    | none=>rfl
    | some l=>exact Oper.semAt_some l _ _ hn
  rw [e,hr];exact h
theorem k6h [Rd] {o:Oper} {a:Act} {w w':World} {f:FuncId} {vs:Array Value} {K:Act->World->Prop} {Q:Exit->Act->World->Prop} (hn:∀ c,o.op ≠ .defer c) (hr:(execOp a.eval o).run P w = .ok (.enter f vs) w') (h:Calls P f vs w' fun
      | .returned v,w''=>K (a.put o.dst v) w''
      | .panicked chain,w''=>Q (.panic chain) a w''
      | .outgrown,_=>LetsOut Q):Owp P o a w K Q:=
  kyt hn hr ⟨fun h=>(by cases h),k0u h⟩
theorem k7a {o:Oper} {a:Act} {w:World} {r:Result Next} {K:Act->World->Prop} {Q:Exit->Act->World->Prop} (hr:(execOp a.eval o).run P w=r) (h:o.uponIn Fd 0 P a K Q r):Owp P o a w K Q:=
  ⟨fun _ _=>trivial,by show o.uponIn _ _ _ _ _ _ ((execOp a.eval o).run P w);rw [hr];exact h⟩
theorem kac8 {o:Oper} {a:Act} {w:World} {R:Value->World->Prop} (b:ket P o a w R):∀ c,o.op ≠ .defer c:=fun c hc=>by
  unfold ket at b;have e:(execOp a.eval o).run P w=((do let d <- resolve a.eval c o.type;pure (.defer d)):Sem Next).run P w:=by unfold execOp;rw [hc]
  rw [e,Sem.run_bind] at b;generalize (resolve a.eval c o.type).run P w=r at b;cases r with
  | ok d w'=>simp only [Result.andThen,Sem.run_pure,knm] at b
  | halt x w'=>simp only [Result.andThen,knm] at b
theorem kjm [Rd] {o:Oper} {a:Act} {w:World} {R:Value->World->Prop} {K:Act->World->Prop} {Q:Exit->Act->World->Prop}
    (h:∀ v w',R v w'->K (a.put o.dst v) w') (b:ket P o a w R):Owp P o a w K Q:=by
  refine kyt (kac8 b) rfl ?_;unfold ket at b;generalize (execOp a.eval o).run P w=r at *
  cases r with
  | ok n w'=>
    cases n <;> simp only [knm] at b <;> simp only [Oper.uponIn]
    case enter f args=>exact ⟨fun h=>(by cases h),k0u (b.mono fun e w'' ⟨u,c,d⟩=>by subst c;exact h _ _ d)⟩
    all_goals exact h _ _ b
  | halt x w'=>simp only [knm] at b
def Good (l:List Oper) (acc:Array Nat):Prop:=
  acc.size=l.length/\∀ k o,l[k]?=some o->∀ j,(acc.getD k 0).testBit j=true ->
    ∃ e∈o.after,Region.binds .any e=true/\(e.on=j\/(e.on<k/\(acc.getD e.on 0).testBit j=true))
theorem k4s (acc:Array Nat) (j:Nat):∀ (es:List Edge) (s:Nat),
    (es.foldl (fun s e=>if Region.binds .any e then s ||| 2 ^ e.on ||| acc.getD e.on 0 else s) s).testBit j=true ->
    s.testBit j=true\/∃ e∈es,Region.binds .any e=true/\(e.on=j\/(acc.getD e.on 0).testBit j=true)
  | [],s,h => .inl h
  | e::es,s,h=>by
    simp only [List.foldl_cons] at h;rcases k4s acc j es _ h with h | ⟨e',b,a,h⟩
    · by_cases a:Region.binds .any e=true
      · rw [qo a,Nat.testBit_or,Nat.testBit_or,qb1,qb1] at h
        rcases h with (h | h) | h
        · exact .inl h
        · rw [Nat.testBit_two_pow] at h
          exact .inr ⟨e,by simp,a, .inl (by simpa using h)⟩
        · exact .inr ⟨e,by simp,a, .inr h⟩
      · rw [qi a] at h
        exact .inl h
    · exact .inr ⟨e',qh _ b,a,h⟩
theorem kaeg {l:List Oper} {acc:Array Nat} (h:Good l acc) (o:Oper):
    Good (l++[o]) (acc.push (o.after.toList.foldl (fun s e=>if Region.binds .any e then s ||| 2 ^ e.on ||| acc.getD e.on 0 else s) 0)):=by
  obtain ⟨hs,q⟩:=h;refine ⟨by simp [hs],fun k p hk j c=>?_⟩;have old:∀ i,i<acc.size->∀ x,(acc.push x).getD i 0=acc.getD i 0:=fun i hi x=>by simp [Array.getElem?_push,Nat.ne_of_lt hi]
  by_cases d:k<l.length
  · rw [qad d] at hk
    rw [old k (by omega)] at c;obtain ⟨e,f,g,h⟩:=q k p hk j c;refine ⟨e,f,g,h.imp id fun ⟨h1,r⟩=>⟨h1,?_⟩⟩;rw [old _ (by omega)];exact r
  · have a:k=l.length:=by have:=(qg.1 hk).1;simp at this;omega
    subst a;simp at hk;subst hk;have b:∀ x,(acc.push x).getD l.length 0=x:=fun x=>(by rw [<- hs];simp);rw [b] at c;rcases k4s acc j _ 0 c with h | ⟨e,f,g,h⟩
    · simp at h
    · refine ⟨e,by simpa using f,g,?_⟩
      rcases h with h | h
      · exact .inl h
      · have m:e.on<acc.size:=by
          rcases qbb e.on acc.size with n | n
          · exact n
          · simp [Array.getElem?_eq_none n] at h
        exact .inr ⟨by omega,by rw [old _ m];exact h⟩
theorem k4g:∀ (l r:List Oper) (acc:Array Nat),Good r acc ->
    Good (r++l) (l.foldl (fun acc o=>acc.push (o.after.toList.foldl (fun s e=>if Region.binds .any e then s ||| 2 ^ e.on ||| acc.getD e.on 0 else s) 0)) acc)
  | [],r,acc,h=>by simpa using h
  | o::l,r,acc,h=>by have:=k4g l (r++[o]) _ (kaeg h o);simpa using this
theorem kacq (l:List Oper):Good l (kq6 l):=by exact k4g l [] #[] ⟨rfl,fun k o h=>by simp at h⟩
theorem kny {l:List Oper} {S:Nat->Prop} (hS:∀ k o,S k->l[k]?=some o->∀ e∈o.after,Region.binds .any e=true->S e.on):
    ∀ (k:Nat) (o:Oper),l[k]?=some o->(∀ e∈o.after,Region.binds .any e=true->S e.on)->∀ j,((kq6 l).getD k 0).testBit j=true->S j:=by
  intro k
  induction k using Nat.strongRecOn with
  | _ k ih=>
    intro o g a j n;obtain ⟨e,i,m,h⟩:=(kacq l).2 k o g j n;rcases h with rfl | ⟨c,h⟩
    · exact a e i m
    · have hk:k<l.length:=(qg.1 g).1
      have b:l[e.on]?=some (l[e.on]'(by omega)):=qb (by omega);exact ih e.on c _ b (fun e' d f=>hS e.on _ (a e i m) b e' d f) j h
theorem kz4 (a:Act) (d:Option Tmp) (v:Value):(a.put d v).tmps.size=a.tmps.size:=by cases d <;> simp [Act.put]
theorem k85 (a:Act) (d:Option Tmp) (v:Value):(a.put d v).defers=a.defers:=by cases d <;> rfl
variable {gs:List Gd} {l:List Oper} {xs:Nat->Value} {a0:Act}
theorem k30 (m:Nat) {listed:Array Bool} {i:Nat} (hi:i<m) (d:listed.getD i true=false) (hs:i<listed.size):
    ((List.range m).countP fun k=>!(listed.setIfInBounds i true).getD k true)<(List.range m).countP fun k=>!listed.getD k true:=by
  have a:List.range m=List.range i++i::(List.range (m - (i+1))).map (i+1+·):=by rw [show m=i+1+(m - (i+1)) by omega,List.range_add,List.range_succ];simp
  have b:∀ L:List Nat,(L.countP fun k=>!(listed.setIfInBounds i true).getD k true)<=L.countP fun k=>!listed.getD k true:=fun L=>by
    refine List.countP_mono_left fun k _ hk=>?_;by_cases c:i=k
    · subst c;simp [hs] at hk
    · rw [getD_set_ne true c] at hk;exact hk
  rw [a,List.countP_append,List.countP_append,List.countP_cons,List.countP_cons];have h1:=b (List.range i);have f:=b ((List.range (m - (i+1))).map (i+1+·));have e:(listed.setIfInBounds i true).getD i true=true:=by simp [hs]
  rw [e,d];simp only [qbo,Bool.not_false,if_true,Bool.false_eq_true,if_false];omega
structure k8g (l:List Oper) (n s:Nat):Prop where
  sel:Region.noSelect l.toArray=true
  len:n<=l.length
  edges:∀ k o,l[k]?=some o->∀ e∈o.after,Region.binds .any e=true->e.on<k
  dst:∀ i o d,i<n->l[i]?=some o->o.dst=some d->d<s
  uniq:∀ i j o p d,i<n->j<n->l[i]?=some o->l[j]?=some p->o.dst=some d->p.dst=some d->i=j
  looks:∀ i j o p t,i<n->j<n->i≠j->l[i]?=some o->l[j]?=some p->t∈o.looksAt l.toArray->p.dst=some t->ki8 o j=true\/ki8 p i=true
structure kah9 (l:List Oper) (n s:Nat):Prop extends k8g l n s where
  tail:∀ k j,k<l.length->n<=k->j<k->((kq6 l).getD k 0).testBit j=true
theorem k6y {l:List Oper} {n s:Nat} (h:k57 l n s=true):k8g l n s:=by
  simp only [k57,qp] at h;obtain ⟨⟨⟨⟨⟨h1,c⟩,q⟩,r⟩,u⟩,v⟩:=h;have c:n<=l.length:=by simpa using c
  have tk:∀ i o,i<n->l[i]?=some o->(o,i)∈(l.take n).zipIdx:=fun i o hi a=>by rw [List.mk_mem_zipIdx_iff_getElem?,qab,qo hi];exact a
  refine ⟨h1,c,?_,?_,?_,?_⟩
  · intro k o a e w x
    have:=qr.1 q (o,k) (by rw [List.mk_mem_zipIdx_iff_getElem?];exact a);have:=qr.1 this e (by simpa using w);simpa [x] using this
  · intro i o d hi a hd
    have:=qr.1 r o (qn (i:=i) (by rw [qab,qo hi];exact a));simpa [hd] using this
  · intro i j o p d hi f a hp g b
    have:=qr.1 (qr.1 u _ (tk i o hi a)) _ (tk j p f hp);simpa [g,b] using this
  · intro i j o p t hi f m a hp ht b
    have:=qr.1 (qr.1 (qr.1 v _ (tk i o hi a)) t ht) _ (tk j p f hp);simpa [b,m] using this
theorem kaad {l:List Oper} {n s:Nat} (h:relB l n s=true):kah9 l n s:=by
  simp only [relB,qp] at h;refine ⟨k6y h.1,?_⟩
  · intro k j hk b a
    have:=qr.1 h.2 (l[k],k) (by rw [List.mk_mem_zipIdx_iff_getElem?];exact qb hk);simp only [qb1,qbx] at this;exact qr.1 (this.resolve_left (by omega)) j (by simpa using a)
theorem afterB_iff {o:Oper} {j:Nat}:ki8 o j=true↔∃ e∈o.after,e.on=j/\Region.binds .any e=true:=by unfold ki8;rw [List.any_eq_true];simp
theorem kabp [Rd] {l:List Oper} {n s:Nat} (ok:kah9 l n s) {Q:Exit->Act->World->Prop}:∀ (fuel k:Nat) (listed:Array Bool) (a:Act) (w:World),
    n<=k->k<=l.length->listed.size=l.length->(∀ i,i<l.length->(listed.getD i true=true↔i<k))->l.length - k<=fuel ->
    kbg P l.toArray Q (l.drop k) a w->kqx P .any l.toArray Q fuel listed a w:=by
  intro fuel
  induction fuel with
  | zero=>
    intro k listed a w B C d b g h;have hk:k=l.length:=(by omega);subst hk;refine ⟨?_,by simpa [kbg] using h⟩;rw [List.eq_nil_iff_forall_not_mem];intro i hi;obtain ⟨h0,o,q,_⟩:=mem_ready.1 hi;have c:i<l.length:=(by simpa using (qak.1 q).1);rw [(b i c).2 c] at h0;cases h0
  | succ fuel ih=>
    intro k listed a w B C d b g h;have u:∀ i,i<l.length->i<k->listed.getD i false=true:=fun i hi D=>(by have h1:=(b i hi).2 D;simp [d,hi] at h1 ⊢;exact h1);have only:∀ i∈Region.ready .any l.toArray listed,i=k/\k<l.length:=fun i hi=>by
      obtain ⟨h0,o,q,v⟩:=mem_ready.1 hi;have c:i<l.length:=(by simpa using (qak.1 q).1);have E:k<=i:=by
        rcases qbb i k with f | f
        · rw [(b i c).2 f] at h0;cases h0
        · exact f
      refine ⟨?_,by omega⟩;rcases qbb k i with f | f
      · exfalso
        have hS:=kny (l:=l) (S:=fun j=>j<i/\listed.getD j false=true) ?_ i o (by simpa using q) ?_ k (ok.tail i k c (by omega) f)
        · have:=(b k (by omega)).1 (by have:=hS.2;simp [d,show k<l.length by omega] at this ⊢;exact this)
          omega
        · intro m p ⟨F,x⟩ hp e r t
          have y:=ok.edges m p hp e r t;refine ⟨by omega,?_⟩;have G:=(b m (by omega)).1 (by simp [d,show m<l.length by omega] at x ⊢;exact x);exact u _ (by omega) (by omega)
        · intro e r t
          exact ⟨ok.edges i o (by simpa using q) e r t,v e r t⟩
      · omega
    refine ⟨fun z=>?_,fun i hi=>?_⟩
    · have hk:k=l.length:=by
        rcases qbb k l.length with f | f
        · exfalso
          have:k∈Region.ready .any l.toArray listed:=mem_ready.2 ⟨by have:=mt (b k f).1 (by omega);simpa using this,l[k],by simp [f],fun e r t=>by have y:=ok.edges k _ (qb f) e r t;exact u _ (by omega) y⟩;rw [z] at this;cases this
        · omega
      subst hk;simpa [kbg] using h
    · obtain ⟨rfl,c⟩:=only i hi
      rw [qan c] at h;have q:l.toArray[i]?=some l[i]:=(by simp [c]);have H:wpOp P l.toArray Q i (kbg P l.toArray Q (l.drop (i+1))) a w:=(by unfold wpOp;simp only [q];exact h);refine knj (fun a' w' f=>ih (i+1) _ a' w' (by omega) (by omega) (by simp [d]) (fun j I=>?_) (by omega) f) H;by_cases A:i=j
      · subst A;simp [d,c]
      · rw [getD_set_ne true A,b j I];omega
structure kalu (gs:List Gd) (l:List Oper) (C:World->Prop) (a0:Act) (listed:Array Bool) (a:Act) (w:World):Prop where
  inC:C w
  defers:a.defers=a0.defers
  size:a.tmps.size=a0.tmps.size
  lsize:listed.size=l.length
  closed:∀ k o,listed.getD k false=true->l[k]?=some o->∀ e∈o.after,Region.binds .any e=true->listed.getD e.on false=true
  vals:∃ xs:Nat->Value,∀ j g,gs[j]?=some g->listed.getD j false=true->g.holds (xs j) w/\∀ o d,l[j]?=some o->o.dst=some d->a.tmps[d]?=some (xs j)
  rest:∀ t,(∀ j o,listed.getD j false=true->l[j]?=some o->o.dst≠some t)->a.tmps[t]?=a0.tmps[t]?
theorem kajd {listed:Array Bool} {i:Nat} (h:listed.getD i true=false):listed.getD i false=false:=by
  rcases qbb i listed.size with a | a
  · simp [a] at h ⊢; exact h
  · simp [Array.getElem?_eq_none a]
theorem gD_lt {listed:Array Bool} {i:Nat} (h:listed.getD i false=true):i<listed.size:=by
  rcases qbb i listed.size with a | a
  · exact a
  · simp [Array.getElem?_eq_none a] at h
theorem k1e (m j:Nat):(Array.replicate m false).getD j false=false:=by rcases qbb j m with h | h <;> simp [h]
attribute [go_sem] ket knm
end Go.Proofs.YtjpkdegjcilndaaGreatDoor
set_option linter.all false
set_option linter.unusedSectionVars false
namespace Go.Proofs.YtjpkdegjcilndaaGreatDoor
open Go Go.RowKit
variable [Dr]
def khs (n:Int):Prop := -9223372036854775808<=n/\n<=9223372036854775807
def At (w:World) (b o:Nat) (cs:List Value):Prop:=∀ j u,cs[j]?=some u->w.cell? ⟨b,o+j,none⟩=some u
def Same (S:Nat->Prop) (w w':World):Prop:=∀ b,S b->b<w.heap.size->w'.heap[b]?=w.heap[b]?
abbrev Grow (w w':World):Prop:=Below w.heap.size w w'
theorem Below.step {a b c:World} (h:Grow a b) (k:Grow b c):Grow a c:=Below.trans h (k.mono h.size)
theorem kbj (w:World) (o:Obj):Grow w (w.alloc o):=(Below.refl _ _).alloc (qx _) _
theorem kadc (w:World):Grow w w.drew:=(Below.refl _ _).drew
theorem kaf (w:World):Grow w w:=Below.refl _ _
section
variable {T:Type} {S S':Nat->Prop} {w w' w'':World} {b o:Nat} {cs:List Value}
theorem k3z {w:World} {a:Addr} {u:Value} (h:w.cell? a=some u):a.block<w.heap.size:=by
  rcases qbb a.block w.heap.size with b | b
  · exact b
  · simp [World.cell?,Array.getElem?_eq_none b] at h
theorem Same.of_grow (h:Grow w w'):Same S w w':=fun b _ a=>h.block b a
theorem At.keep (h:At w b o cs) (hS:S b) (hk:Same S w w'):At w' b o cs:=fun j u a=>by
  have h1:=h j u a;rw [World.cell?_of_block (w:=w)]
  · exact h1
  · exact hk b hS (k3z h1)
def RepSl (S:Nat->Prop) (w:World) (size:Nat) (R:List Value->T->Prop) (v:Value) (xs:List T):Prop:=
  ∃ A cap,v = .slice A xs.length cap/\xs.length<=cap/\cap<=9223372036854775807 /\
    ∀ (i:Nat) (x:T),xs[i]?=some x->∃ b o cs,A=some ⟨b,o,none⟩/\S b/\At w b (o+i*size) cs/\cs.length=size/\R cs x
theorem RepSl.nil {size cap:Nat} {R:List Value->T->Prop} {A:Option Addr} (hc:cap<=9223372036854775807):RepSl S w size R (.slice A 0 cap) []:=
  ⟨A,cap,rfl,by simp,hc,fun i x h=>by simp at h⟩
def Any:Nat->Prop:=fun _=>True
def IntR (cs:List Value) (n:Int):Prop:=cs=[.int .i64 n]/\khs n
def Ints (S:Nat->Prop) (w:World) (v:Value) (ns:List Int):Prop:=RepSl S w 1 IntR v ns
structure Kept (size:Nat) (R:(Nat->Prop)->World->List Value->T->Prop):Prop where
  pos:0<size
  keep:∀ {S w w' cs x},R S w cs x->Same S w w'->R S w' cs x
  mono:∀ {S S':Nat->Prop} {w cs x},R S w cs x->(∀ b,S b->S' b)->R S' w cs x
  bound:∀ {S w cs x},R S w cs x->R (fun b=>S b/\b<w.heap.size) w cs x
  len:∀ {S w cs x},R S w cs x->cs.length=size
  one:∀ {S w cs x},R S w cs x->∀ u∈cs,u.oneCell'=true
variable {D:Nat->Prop} {lo:Nat} {e:TypeId} {size:Nat} {R:(Nat->Prop)->World->List Value->T->Prop} {v:Value} {xs:List T}
theorem k3o {b:Nat} {Q:List Value->T->Prop}:∀ (ys:List T) (o:Nat),(∀ (i:Nat) (y:T),ys[i]?=some y->∃ cs,At w b (o+i*size) cs/\cs.length=size/\Q cs y) ->
    ∃ news:List Value,news.length=ys.length*size/\At w b o news/\∀ (i:Nat) (y:T),ys[i]?=some y->Q ((news.drop (i*size)).take size) y
  | [],o,_=>⟨[],by simp,fun j u h=>by simp at h,fun i y h=>by simp at h⟩
  | y::ys,o,h=>by
    obtain ⟨cs,e,hl,g⟩:=h 0 y rfl;obtain ⟨news,hn,a,f⟩:=k3o (b:=b) (Q:=Q) ys (o+size) fun i z c=>by
      have:=h (i+1) z (by simpa using c)
      rwa [show o+(i+1)*size=o+size+i*size by rw [qbc];omega] at this
    refine ⟨cs++news,by simp [hl,hn,qbc];omega,fun j u d=>?_,fun i z c=>?_⟩
    · by_cases k:j<size
      · rw [qad (by omega)] at d
        have:=e j u d;simpa using this
      · rw [qae (by omega),hl] at d
        have:=a _ u d
        rwa [show o+size+(j - size)=o+j by omega] at this
    · cases i with
      | zero=>
        simp at c;subst c;simp only [Nat.zero_mul,List.drop_zero];rw [List.take_append_of_le_length (by omega),List.take_of_length_le (by omega)];exact g
      | succ i=>
        have:=f i z (by simpa using c);rw [show (i+1)*size=cs.length+i*size by rw [hl,qbc];omega,<- List.drop_drop,List.drop_left];exact this
theorem ky7 {P:Program} (lo:Nat) (t ty e:TypeId) (i:TypeInfo) (size:Nat) (ht:P.underlying t=some (.slice e)) (hi:P.info? e=some i)
    (v:Value) (n:Nat) (xs:List Value) (a:w.ownsRow lo e size v n xs) (c:Nat):(Builtin.append_ #[t,t] ty #[v, .slice none 0 c]).run P w = .ok v w:=by
  rcases a.2 with ⟨rfl,rfl⟩ | ⟨g,cap,cur,rfl,_,_,b,_⟩
  · simp [Builtin.append_,run_underlying ht,sizeOf,typeInfo,hi,Builtin.lenOf,Builtin.firstCells]
  · simp [Builtin.append_,run_underlying ht,sizeOf,typeInfo,hi,Builtin.lenOf,Builtin.firstCells,b,storeCells]
end
end Go.Proofs.YtjpkdegjcilndaaGreatDoor
set_option linter.all false
set_option maxRecDepth 100000
namespace Go.Proofs.YtjpkdegjcilndaaGreatDoor
open Go Go.RowKit Go.ChangeShapes Go.WideShapes
theorem kaju:Tryz.checked.prog.liftsFinal=false:=by as_aux_lemma=>kernel_rfl
variable [Dr]
inductive Tm where
  | mk (rule:Int) (args:List Tm)
namespace Tm
def rule:Tm->Int | mk r _=>r
def args:Tm->List Tm | mk _ l=>l
theorem ind {P:Tm->Prop} (h:∀ r l,(∀ t∈l,P t)->P (mk r l)) (t:Tm):P t:=
  Tm.rec (motive_1:=P) (motive_2:=fun l=>∀ t∈l,P t) (fun r l ih=>h r l ih) (fun _ h=>nomatch h)
    (fun t l h1 a x hx=>(qac.1 hx).elim (fun e=>e ▸ h1) (a x)) t
mutual
def size:Tm->Nat
  | mk _ l=>sizeL l+1
def sizeL:List Tm->Nat
  | []=>0
  | t::l=>t.size+sizeL l
end
mutual
def depth:Tm->Nat
  | mk _ l=>depthL l+1
def depthL:List Tm->Nat
  | []=>0
  | t::l=>max t.depth (depthL l)
end
mutual
def pre (g:Tm->Int):Tm->List Int
  | mk r l=>g (mk r l)::preL g l
def preL (g:Tm->Int):List Tm->List Int
  | []=>[]
  | t::l=>t.pre g++preL g l
end
def nargs (t:Tm):Int:=(t.args.length:Int)
def rules (t:Tm):List Int:=t.pre rule
def arities (t:Tm):List Int:=t.pre nargs
theorem sizeL_snoc (l:List Tm) (t:Tm):sizeL (l++[t])=sizeL l+t.size:=by
  induction l with
  | nil=>simp [sizeL]
  | cons x l ih=>simp only [List.cons_append,sizeL,ih];omega
theorem depthL_snoc (l:List Tm) (t:Tm):depthL (l++[t])=max (depthL l) t.depth:=by
  induction l with
  | nil=>simp [depthL]
  | cons x l ih=>simp only [List.cons_append,depthL,ih];omega
theorem size_pos (t:Tm):1<=t.size:=by cases t;simp [size]
theorem sizeL_mem {l:List Tm} {t:Tm} (h:t∈l):t.size<=sizeL l:=by
  induction l with
  | nil=>cases h
  | cons x l ih=>
    simp only [sizeL];rcases qac.1 h with rfl | h
    · omega
    · have:=ih h;omega
theorem sizeL_len (l:List Tm):l.length<=sizeL l:=by
  induction l with
  | nil=>simp [sizeL]
  | cons x l ih=>simp only [qy,sizeL];have:=x.size_pos;omega
theorem depthL_take_succ {l:List Tm} {k:Nat} (h:k<l.length):depthL (l.take (k+1))=max (depthL (l.take k)) l[k].depth:=by rw [List.take_succ_eq_append_getElem h,depthL_snoc]
theorem depth_le_size (t:Tm):t.depth<=t.size:=by
  induction t using Tm.ind with
  | h r l ih=>
    simp only [depth,size];have:∀ m:List Tm,(∀ t∈m,t.depth<=t.size)->depthL m<=sizeL m:=fun m=>by
      induction m with
      | nil=>simp [depthL]
      | cons x m ihm=>
        intro h;simp only [depthL,sizeL];have:=h x (by simp);have:=ihm fun t ht=>h t (by simp [ht]);omega
    have:=this l ih;omega
theorem pre_length (g:Tm->Int) (t:Tm):(t.pre g).length=t.size:=by
  induction t using Tm.ind with
  | h r l ih=>
    simp only [pre,size,qy];have:∀ m:List Tm,(∀ t∈m,(t.pre g).length=t.size)->(preL g m).length=sizeL m:=fun m=>by
      induction m with
      | nil=>simp [preL,sizeL]
      | cons x m ihm=>
        intro h;simp only [preL,sizeL,qah];rw [h x (by simp),ihm fun t ht=>h t (by simp [ht])]
    rw [this l ih]
theorem preL_length (g:Tm->Int) (l:List Tm):(preL g l).length=sizeL l:=by
  induction l with
  | nil=>simp [preL,sizeL]
  | cons x m ihm=>simp only [preL,sizeL,qah,ihm,pre_length]
theorem rules_length (t:Tm):t.rules.length=t.size:=pre_length _ t
theorem arities_length (t:Tm):t.arities.length=t.size:=pre_length _ t
end Tm
variable {S S':Nat->Prop} {w w':World}
inductive RepTm (S:Nat->Prop) (w:World):List Value->Tm->Prop where
  | mk (r:Int) (kids:List Tm) (A:Option Addr) (cap:Nat) (css:Nat->List Value) (hr:khs r) (hc:kids.length<=cap) (hm:cap<=9223372036854775807)
    (hA:∀ (i:Nat) (x:Tm),kids[i]?=some x->∃ b o,A=some ⟨b,o,none⟩/\S b/\At w b (o+i*2) (css i))
    (hk:∀ (i:Nat) (x:Tm),kids[i]?=some x->RepTm S w (css i) x):RepTm S w [.int .i64 r, .slice A kids.length cap] (.mk r kids)
abbrev Tms (S:Nat->Prop) (w:World) (v:Value) (l:List Tm):Prop:=RepSl S w 2 (RepTm S w) v l
theorem RepTm.len {cs:List Value} {t:Tm} (h:RepTm S w cs t):cs.length=2:=by cases h;rfl
theorem RepTm.form {cs:List Value} {r:Int} {l:List Tm} (h:RepTm S w cs (.mk r l)):∃ s,cs=[.int .i64 r,s]/\khs r/\Tms S w s l:=by
  cases h with
  | mk _ _ A cap css hr hc hm hA hk=>
    refine ⟨_,rfl,hr,A,cap,rfl,hc,hm,fun i x hx=>?_⟩;obtain ⟨b,o,h1,a,c⟩:=hA i x hx;exact ⟨b,o,css i,h1,a,c,(hk i x hx).len,hk i x hx⟩
theorem RepTm.of {s:Value} {r:Int} {l:List Tm} (hr:khs r) (h:Tms S w s l):RepTm S w [.int .i64 r,s] (.mk r l):=by
  obtain ⟨A,cap,rfl,hc,hm,hx⟩:=h;have:∀ i:Nat,∃ cs:List Value,∀ x:Tm,l[i]?=some x->(∃ b o,A=some ⟨b,o,none⟩/\S b/\At w b (o+i*2) cs)/\RepTm S w cs x:=fun i=>by
    cases hi:l[i]? with
    | none=>exact ⟨[],fun x h=>by cases h⟩
    | some x=>
      obtain ⟨b,o,cs,h1,c,d,_,e⟩:=hx i x hi;exact ⟨cs,fun y hy=>by cases hy;exact ⟨⟨b,o,h1,c,d⟩,e⟩⟩
  obtain ⟨css,a⟩:=Classical.axiomOfChoice this;exact .mk r l A cap css hr hc hm (fun i x hi=>(a i x hi).1) (fun i x hi=>(a i x hi).2)
def TmV (S:Nat->Prop) (w:World) (v:Value) (t:Tm):Prop:=∃ c0 c1,v = .agg #[c0,c1]/\RepTm S w [c0,c1] t
end Go.Proofs.YtjpkdegjcilndaaGreatDoor
set_option linter.all false
set_option linter.unusedSectionVars false
namespace Go.Proofs.YtjpkdegjcilndaaGreatDoor
open Go Go.RowKit
variable [Dr]
inductive FV where
  | atom (v:Value)
  | agg (cs:List FV)
  | tup (vs:List FV)
  | lst (size n:Nat) (xs:List FV)
  | fp (cs:List FV)
  | bx (cs:List FV)
def FV.cells:FV->List FV
  | .agg cs=>cs
  | x=>[x]
def FV.single:FV->Bool
  | .atom v=>v.oneCell'
  | .lst _ _ _=>true
  | .fp _=>true
  | .bx _=>true
  | _=>false
inductive AV where
  | fz (x:FV)
  | agg (cs:List AV)
  | tup (vs:List AV)
  | ref (id n off:Nat)
  | row (id n:Nat)
  | lim (size n:Nat) (xs:List FV)
  | mp (id:Nat)
  | fn (f:FuncId) (cap:List AV)
  | mth (f:FuncId) (fst:List AV)
  | opt (id:Nat)
  | sdp (id n:Nat)
  | win (id n lo hi sz:Nat)
  | irow (id g j:Nat)
  | iref (id g j off:Nat)
  | bsl (id g off len:Nat) (cap:Option Nat)
  | any
def AV.cells:AV->List AV
  | .fz x=>x.cells.map .fz
  | .agg cs=>cs
  | x=>[x]
def AV.single:AV->Bool
  | .fz x=>x.single
  | .agg _=>false
  | .tup _=>false
  | .any=>false
  | _=>true
variable {S S':Nat->Prop} {w w':World}
inductive RF (S:Nat->Prop) (w:World):Value->FV->Prop where
  | atom {v:Value} (h:v.oneCell'=true):RF S w v (.atom v)
  | agg {cs:Array Value} {xs:List FV} (h:cs.size=xs.length) (h1:∀ x∈xs,x.single=true)
      (hr:∀ (i:Nat) (v:Value) (x:FV),cs[i]?=some v->xs[i]?=some x->RF S w v x):RF S w (.agg cs) (.agg xs)
  | tup {cs:Array Value} {xs:List FV} (h:cs.size=xs.length)
      (hr:∀ (i:Nat) (v:Value) (x:FV),cs[i]?=some v->xs[i]?=some x->RF S w v x):RF S w (.tuple cs) (.tup xs)
  | lst {A:Option Addr} {cap size n:Nat} {xs:List FV} (css:Nat->List Value) (hn:n=xs.length) (hc:n<=cap) (hm:cap<=9223372036854775807) (hs:0<size)
      (ha:∀ (i:Nat) (x:FV),xs[i]?=some x->∃ b o,A=some ⟨b,o,none⟩/\S b/\At w b (o+i*size) (css i))
      (hl:∀ (i:Nat) (x:FV),xs[i]?=some x->(css i).length=size/\x.cells.length=size/\∀ y∈x.cells,y.single=true)
      (hr:∀ (i:Nat) (x:FV) (j:Nat) (v:Value) (y:FV),xs[i]?=some x->(css i)[j]?=some v->x.cells[j]?=some y->RF S w v y):
      RF S w (.slice A n cap) (.lst size n xs)
  | fp {b o:Nat} {xs:List FV} (cs:List Value) (hS:S b) (ha:At w b o cs) (hl:cs.length=xs.length) (h0:0<xs.length) (h1:∀ x∈xs,x.single=true)
      (hr:∀ (i:Nat) (v:Value) (x:FV),cs[i]?=some v->xs[i]?=some x->RF S w v x):RF S w (.pointer (some ⟨b,o,none⟩)) (.fp xs)
  | bx {b:Nat} {e:TypeId} {xs:List FV} (cs:Array Value) (hS:S b) (ha:w.heap[b]?=some (.cells cs e (0,0))) (hl:cs.size=xs.length) (h0:0<xs.length) (h1:∀ x∈xs,x.single=true)
      (hr:∀ (i:Nat) (v:Value) (x:FV),cs[i]?=some v->xs[i]?=some x->RF S w v x):RF S w (.pointer (some ⟨b,0,none⟩)) (.bx xs)
  | bn:RF S w (.pointer none) (.bx [])
theorem RF.keep {v:Value} {x:FV} (h:RF S w v x) (hk:Same S w w'):RF S w' v x:=by
  induction h with
  | atom h=>exact .atom h
  | agg h h1 _ ih=>exact .agg h h1 ih
  | tup h _ ih=>exact .tup h ih
  | lst css hn hc hm hs ha hl _ ih=>
    exact .lst css hn hc hm hs (fun i x hx=>let ⟨b,o,h1,a,c⟩:=ha i x hx;⟨b,o,h1,a,c.keep a hk⟩) hl ih
  | fp cs hS ha hl h0 h1 _ ih=>exact .fp cs hS (ha.keep hS hk) hl h0 h1 ih
  | bx cs hS ha hl h0 h1 _ ih=>exact .bx cs hS ((hk _ hS (qak.1 ha).1).trans ha) hl h0 h1 ih
  | bn=>exact .bn
theorem RF.mono {v:Value} {x:FV} (h:RF S w v x) (hS:∀ b,S b->S' b):RF S' w v x:=by
  induction h with
  | atom h=>exact .atom h
  | agg h h1 _ ih=>exact .agg h h1 ih
  | tup h _ ih=>exact .tup h ih
  | lst css hn hc hm hs ha hl _ ih=>
    exact .lst css hn hc hm hs (fun i x hx=>let ⟨b,o,h1,a,c⟩:=ha i x hx;⟨b,o,h1,hS b a,c⟩) hl ih
  | fp cs hs ha hl h0 h1 _ ih=>exact .fp cs (hS _ hs) ha hl h0 h1 ih
  | bx cs hs ha hl h0 h1 _ ih=>exact .bx cs (hS _ hs) ha hl h0 h1 ih
  | bn=>exact .bn
theorem RF.bound {v:Value} {x:FV} (h:RF S w v x):RF (fun b=>S b/\b<w.heap.size) w v x:=by
  induction h with
  | atom h=>exact .atom h
  | agg h h1 _ ih=>exact .agg h h1 ih
  | tup h _ ih=>exact .tup h ih
  | lst css hn hc hm hs ha hl _ ih=>
    refine .lst css hn hc hm hs (fun i x hx=>?_) hl ih;obtain ⟨b,o,h1,c,a⟩:=ha i x hx;have hn:=(hl i x hx).1;exact ⟨b,o,h1,⟨c,k3z (a 0 ((css i)[0]'(by omega)) (qb (by omega)))⟩,a⟩
  | fp cs hs ha hl h0 h1 _ ih=>
    exact .fp cs ⟨hs,k3z (ha 0 (cs[0]'(by omega)) (qb (by omega)))⟩ ha hl h0 h1 ih
  | bx cs hs ha hl h0 h1 _ ih=>exact .bx cs ⟨hs,(qak.1 ha).1⟩ ha hl h0 h1 ih
  | bn=>exact .bn
theorem RF.one {v:Value} {x:FV} (h:RF S w v x) (h1:x.single=true):v.oneCell'=true:=by
  cases h with
  | atom h=>exact h
  | agg=>cases h1
  | tup=>cases h1
  | lst=>rfl
  | fp=>rfl
  | bx=>rfl
  | bn=>rfl
theorem RF.atom_eq {v u:Value} (h:RF S w v (.atom u)):v=u:=by cases h;rfl
theorem RF.undef:RF S w Go.undef (.tup []) := .tup rfl (fun i v x h=>by simp at h)
theorem RF.cells {v:Value} {x:FV} (h:RF S w v x) (h1:∀ y∈x.cells,y.single=true):
    v.cells.size=x.cells.length/\(∀ (i:Nat) (u:Value) (y:FV),v.cells[i]?=some u->x.cells[i]?=some y->RF S w u y)/\∀ u∈v.cells.toList,u.oneCell'=true:=by
  have key:v.cells.size=x.cells.length/\(∀ (i:Nat) (u:Value) (y:FV),v.cells[i]?=some u->x.cells[i]?=some y->RF S w u y):=by
    cases h with
    | agg h h1 hr=>exact ⟨h,hr⟩
    | atom h=>
      have hc:v.cells=#[v]:=by cases v <;> first | rfl | cases h
      rw [hc];exact ⟨rfl,fun i u y a hy=>by cases i with | zero=>simp [FV.cells] at a hy;subst a hy;exact .atom h | succ i=>simp at a⟩
    | tup h hr=>cases h1 _ (qa2.2 rfl)
    | lst css hn hc hm hs ha hl hr=>exact ⟨rfl,fun i u y a hy=>by cases i with | zero=>simp [FV.cells,Value.cells] at a hy;subst a hy;exact .lst css hn hc hm hs ha hl hr | succ i=>simp [Value.cells] at a⟩
    | fp cs hS ha hl h0 c hr=>exact ⟨rfl,fun i u y a hy=>by cases i with | zero=>simp [FV.cells,Value.cells] at a hy;subst a hy;exact .fp cs hS ha hl h0 c hr | succ i=>simp [Value.cells] at a⟩
    | bx cs hS ha hl h0 c hr=>exact ⟨rfl,fun i u y a hy=>by cases i with | zero=>simp [FV.cells,Value.cells] at a hy;subst a hy;exact .bx cs hS ha hl h0 c hr | succ i=>simp [Value.cells] at a⟩
    | bn=>exact ⟨rfl,fun i u y a hy=>by cases i with | zero=>simp [FV.cells,Value.cells] at a hy;subst a hy;exact .bn | succ i=>simp [Value.cells] at a⟩
  refine ⟨key.1,key.2,fun u a=>?_⟩;obtain ⟨i,hi,rfl⟩:=qai.1 a;have b:i<v.cells.size:=by simpa using hi
  have hx:i<x.cells.length:=by rw [<- key.1];exact b
  exact (key.2 i _ _ (by simp [b]) (qb hx)).one (h1 _ (q9 hx))
structure Env where
  len:Nat->Nat
  val:Nat->Value
def kak:Value->Option Nat
  | .slice (some a) _ _=>some a.block
  | .pointer (some a)=>some a.block
  | .map (some r)=>some r
  | _=>none
def kfi:Value->List Value
  | .tuple cs=>cs.toList
  | _=>[]
def Blk (v:Value) (b:Nat):Prop:=kak v=some b\/∃ u,u∈kfi v/\kak u=some b
theorem Blk.of {v:Value} {b:Nat} (h:kak v=some b):Blk v b := .inl h
theorem Blk.sl {A:Option Addr} {n c b:Nat} (h:Blk (.slice A n c) b):kak (.slice A n c)=some b:=by
  rcases h with h | ⟨u,a,_⟩
  · exact h
  · cases a
theorem Blk.pt {A:Option Addr} {b:Nat} (h:Blk (.pointer A) b):kak (.pointer A)=some b:=by
  rcases h with h | ⟨u,a,_⟩
  · exact h
  · cases a
theorem Blk.mp {A:Option Nat} {b:Nat} (h:Blk (.map A) b):kak (.map A)=some b:=by
  rcases h with h | ⟨u,a,_⟩
  · exact h
  · cases a
variable {ψ ψ':Env} {K K':Nat->Prop}
def capOf:Value->Nat
  | .slice _ _ c=>c
  | _=>0
def CapR (u:Value) (off c:Nat):Option Nat->Prop
  | some k=>c=k
  | none=>off=0/\c=capOf u
def BslR (u:Value) (off len:Nat) (cap:Option Nat) (v:Value):Prop:=
  ∃ b c,kak u=some b/\v = .slice (some ⟨b,off,none⟩) len c/\len<=c/\c<=9223372036854775807/\CapR u off c cap
inductive RV (ψ:Env) (K:Nat->Prop) (S:Nat->Prop) (w:World):Value->AV->Prop where
  | fz {v:Value} {x:FV} (h:RF S w v x):RV ψ K S w v (.fz x)
  | agg {cs:Array Value} {xs:List AV} (h:cs.size=xs.length) (h1:∀ x∈xs,x.single=true)
      (hr:∀ (i:Nat) (v:Value) (x:AV),cs[i]?=some v->xs[i]?=some x->RV ψ K S w v x):RV ψ K S w (.agg cs) (.agg xs)
  | tup {cs:Array Value} {xs:List AV} (h:cs.size=xs.length)
      (hr:∀ (i:Nat) (v:Value) (x:AV),cs[i]?=some v->xs[i]?=some x->RV ψ K S w v x):RV ψ K S w (.tuple cs) (.tup xs)
  | ref {id n off:Nat} {v:Value} (hK:K id) (hn:n<=ψ.len id) (h1:v.oneCell'=true)
      (hv:n=ψ.len id->∃ b,kak (ψ.val id)=some b/\v = .pointer (some ⟨b,off,none⟩)):RV ψ K S w v (.ref id n off)
  | row {id n:Nat} {v:Value} (hK:K id) (hn:n<=ψ.len id) (h1:v.oneCell'=true) (hv:n=ψ.len id->v=ψ.val id):RV ψ K S w v (.row id n)
  | lim {A:Option Addr} {size n:Nat} {xs:List FV} (h:RF S w (.slice A n n) (.lst size n xs)):RV ψ K S w (.slice A n n) (.lim size n xs)
  | mp {id:Nat} {v:Value} (hK:K id) (h1:v.oneCell'=true) (hv:0=ψ.len id->v=ψ.val id):RV ψ K S w v (.mp id)
  | fn {f:FuncId} {cs:Array Value} {xs:List AV} (h:cs.size=xs.length)
      (hr:∀ (i:Nat) (v:Value) (x:AV),cs[i]?=some v->xs[i]?=some x->RV ψ K S w v x):RV ψ K S w (.func (.func f) #[] cs) (.fn f xs)
  | mth {f:FuncId} {cs:Array Value} {xs:List AV} (h:cs.size=xs.length)
      (hr:∀ (i:Nat) (v:Value) (x:AV),cs[i]?=some v->xs[i]?=some x->RV ψ K S w v x):RV ψ K S w (.func (.func f) cs #[]) (.mth f xs)
  | opt {id:Nat} {v:Value} (hK:K id) (h1:v.oneCell'=true) (hv:0=ψ.len id->v = .pointer none\/∃ b,kak (ψ.val id)=some b/\v = .pointer (some ⟨b,0,none⟩)):RV ψ K S w v (.opt id)
  | sdp {id n:Nat} {v:Value} (hK:K id) (hn:n<=ψ.len id) (h1:v.oneCell'=true) (hv:n=ψ.len id->(∃ a,v = .pointer a)/\(0<n->∃ b,kak (ψ.val id)=some b/\v = .pointer (some ⟨b,0,none⟩))):RV ψ K S w v (.sdp id n)
  | win {id n lo hi sz:Nat} {v:Value} (hK:K id) (hn:n<=ψ.len id) (h1:v.oneCell'=true) (hv:n=ψ.len id->lo<=hi/\hi<=n/\∃ A cap,v = .slice A (hi - lo) cap/\(lo<hi->∃ b,kak (ψ.val id)=some b/\A=some ⟨b,lo*sz,none⟩)):RV ψ K S w v (.win id n lo hi sz)
  | irow {id g j:Nat} {v:Value} (hK:K id) (hn:g<=ψ.len id) (h1:v.oneCell'=true) (hv:g=ψ.len id->(kfi (ψ.val id))[j]?=some v):RV ψ K S w v (.irow id g j)
  | iref {id g j off:Nat} {v:Value} (hK:K id) (hn:g<=ψ.len id) (h1:v.oneCell'=true) (hv:g=ψ.len id->∃ u b,(kfi (ψ.val id))[j]?=some u/\kak u=some b/\v = .pointer (some ⟨b,off,none⟩)):RV ψ K S w v (.iref id g j off)
  | bsl {id g off len:Nat} {cap:Option Nat} {v:Value} (hK:K id) (hn:g<=ψ.len id) (h1:v.oneCell'=true) (hv:g=ψ.len id->BslR (ψ.val id) off len cap v):RV ψ K S w v (.bsl id g off len cap)
  | any {v:Value}:RV ψ K S w v .any
theorem RV.bound {v:Value} {a:AV} (h:RV ψ K S w v a):RV ψ K (fun b=>S b/\b<w.heap.size) w v a:=by
  induction h with
  | fz h=>exact .fz h.bound
  | agg h h1 _ ih=>exact .agg h h1 ih
  | tup h _ ih=>exact .tup h ih
  | ref hk hn h1 hv=>exact .ref hk hn h1 hv
  | row hk hn h1 hv=>exact .row hk hn h1 hv
  | lim h=>exact .lim h.bound
  | mp hk h1 hv=>exact .mp hk h1 hv
  | opt hk h1 hv=>exact .opt hk h1 hv
  | sdp hk hn h1 hv=>exact .sdp hk hn h1 hv
  | win hk hn h1 hv=>exact .win hk hn h1 hv
  | irow hk hn h1 hv=>exact .irow hk hn h1 hv
  | iref hk hn h1 hv=>exact .iref hk hn h1 hv
  | bsl hk hn h1 hv=>exact .bsl hk hn h1 hv
  | fn h _ ih=>exact .fn h ih
  | mth h _ ih=>exact .mth h ih
  | any=>exact .any
theorem RV.mono {v:Value} {a:AV} (h:RV ψ K S w v a) (hK:∀ id,K id->K' id) (hS:∀ b,S b->S' b):RV ψ K' S' w v a:=by
  induction h with
  | fz h=>exact .fz (h.mono hS)
  | agg h h1 _ ih=>exact .agg h h1 ih
  | tup h _ ih=>exact .tup h ih
  | ref hk hn h1 hv=>exact .ref (hK _ hk) hn h1 hv
  | row hk hn h1 hv=>exact .row (hK _ hk) hn h1 hv
  | lim h=>exact .lim (h.mono hS)
  | mp hk h1 hv=>exact .mp (hK _ hk) h1 hv
  | opt hk h1 hv=>exact .opt (hK _ hk) h1 hv
  | sdp hk hn h1 hv=>exact .sdp (hK _ hk) hn h1 hv
  | win hk hn h1 hv=>exact .win (hK _ hk) hn h1 hv
  | irow hk hn h1 hv=>exact .irow (hK _ hk) hn h1 hv
  | iref hk hn h1 hv=>exact .iref (hK _ hk) hn h1 hv
  | bsl hk hn h1 hv=>exact .bsl (hK _ hk) hn h1 hv
  | fn h _ ih=>exact .fn h ih
  | mth h _ ih=>exact .mth h ih
  | any=>exact .any
theorem RV.one {v:Value} {a:AV} (h:RV ψ K S w v a) (h1:a.single=true):v.oneCell'=true:=by
  cases h with
  | fz h=>exact h.one h1
  | agg=>cases h1
  | tup=>cases h1
  | ref _ _ h _=>exact h
  | row _ _ h _=>exact h
  | lim=>rfl
  | mp _ h _=>exact h
  | opt _ h _=>exact h
  | sdp _ _ h _=>exact h
  | win _ _ h _=>exact h
  | irow _ _ h _=>exact h
  | iref _ _ h _=>exact h
  | bsl _ _ h _=>exact h
  | fn=>rfl
  | mth=>rfl
  | any=>cases h1
theorem RV.cells {v:Value} {a:AV} (h:RV ψ K S w v a) (h1:∀ y∈a.cells,y.single=true):
    v.cells.size=a.cells.length/\(∀ (i:Nat) (u:Value) (y:AV),v.cells[i]?=some u->a.cells[i]?=some y->RV ψ K S w u y)/\∀ u∈v.cells.toList,u.oneCell'=true:=by
  have one:v.oneCell'=true->a.cells=[a]->RV ψ K S w v a->v.cells.size=a.cells.length/\(∀ (i:Nat) (u:Value) (y:AV),v.cells[i]?=some u->a.cells[i]?=some y->RV ψ K S w u y):=fun b hc hr=>by
    have hv:v.cells=#[v]:=by cases v <;> first | rfl | cases b
    rw [hc,hv];exact ⟨rfl,fun i u y c hy=>by cases i with | zero=>simp at c hy;subst c hy;exact hr | succ i=>simp at c⟩
  have key:v.cells.size=a.cells.length/\(∀ (i:Nat) (u:Value) (y:AV),v.cells[i]?=some u->a.cells[i]?=some y->RV ψ K S w u y):=by
    cases h with
    | @fz v x h=>
      have hx:∀ y∈x.cells,y.single=true:=fun y hy=>h1 (.fz y) (by simp [AV.cells,hy]);obtain ⟨e1,e2,_⟩:=h.cells hx;refine ⟨by simpa [AV.cells] using e1,fun i u y c hy=>?_⟩;simp only [AV.cells,qq,qt] at hy;obtain ⟨y',e,rfl⟩:=hy;exact .fz (e2 i u y' c e)
    | agg h h1 hr=>exact ⟨h,hr⟩
    | tup h hr=>cases h1 _ (qa2.2 rfl)
    | any=>cases h1 _ (qa2.2 rfl)
    | ref hk hn b hv=>exact one b rfl (.ref hk hn b hv)
    | row hk hn b hv=>exact one b rfl (.row hk hn b hv)
    | lim h=>exact one rfl rfl (.lim h)
    | mp hk b hv=>exact one b rfl (.mp hk b hv)
    | opt hk b hv=>exact one b rfl (.opt hk b hv)
    | sdp hk hn b hv=>exact one b rfl (.sdp hk hn b hv)
    | win hk hn b hv=>exact one b rfl (.win hk hn b hv)
    | irow hk hn b hv=>exact one b rfl (.irow hk hn b hv)
    | iref hk hn b hv=>exact one b rfl (.iref hk hn b hv)
    | bsl hk hn b hv=>exact one b rfl (.bsl hk hn b hv)
    | fn h hr=>exact one rfl rfl (.fn h hr)
    | mth h hr=>exact one rfl rfl (.mth h hr)
  refine ⟨key.1,key.2,fun u c=>?_⟩;obtain ⟨i,hi,rfl⟩:=qai.1 c;have d:i<v.cells.size:=by simpa using hi
  have hx:i<a.cells.length:=by rw [<- key.1];exact d
  exact (key.2 i _ _ (by simp [d]) (qb hx)).one (h1 _ (q9 hx))
theorem RV.inv {v:Value} {x:FV} (h:RV ψ K S w v (.fz x)):RF S w v x:=by cases h;assumption
theorem RV.atom {v u:Value} (h:RV ψ K S w v (.fz (.atom u))):v=u:=h.inv.atom_eq
def Ext (K:Nat->Prop) (ψ ψ':Env):Prop:=∀ id,K id->ψ.len id<=ψ'.len id/\(ψ.len id=ψ'.len id->ψ'.val id=ψ.val id)
theorem Ext.refl:Ext K ψ ψ:=fun _ _=>⟨qx _,fun _=>rfl⟩
theorem RV.keep {v:Value} {a:AV} (h:RV ψ K S w v a) (f:Ext K ψ ψ') (hK:∀ id,K id->K' id) (hS:∀ b,S b->S' b) (hk:Same S w w'):RV ψ' K' S' w' v a:=by
  induction h with
  | fz h=>exact .fz ((h.keep hk).mono hS)
  | agg h h1 _ ih=>exact .agg h h1 ih
  | tup h _ ih=>exact .tup h ih
  | @ref id n off v hk hn h1 hv=>
    have c:=f id hk;refine .ref (hK _ hk) (by omega) h1 fun d=>?_;have e:n=ψ.len id:=(by omega);rw [c.2 (by omega)];exact hv e
  | @row id n v hk hn h1 hv=>
    have c:=f id hk;refine .row (hK _ hk) (by omega) h1 fun d=>?_;have e:n=ψ.len id:=(by omega);rw [c.2 (by omega)];exact hv e
  | lim h=>exact .lim ((h.keep hk).mono hS)
  | @mp id v hk h1 hv=>
    have c:=f id hk;refine .mp (hK _ hk) h1 fun d=>?_;have e:0=ψ.len id:=(by omega);rw [c.2 (by omega)];exact hv e
  | @opt id v hk h1 hv=>
    have c:=f id hk;refine .opt (hK _ hk) h1 fun d=>?_;have e:0=ψ.len id:=(by omega);rw [c.2 (by omega)];exact hv e
  | @sdp id n v hk hn h1 hv=>
    have c:=f id hk;refine .sdp (hK _ hk) (by omega) h1 fun d=>?_;have e:n=ψ.len id:=(by omega);rw [c.2 (by omega)];exact hv e
  | @win id n lo hi sz v hk hn h1 hv=>
    have c:=f id hk;refine .win (hK _ hk) (by omega) h1 fun d=>?_;have e:n=ψ.len id:=(by omega);rw [c.2 (by omega)];exact hv e
  | @irow id g j v hk hn h1 hv=>
    have c:=f id hk;refine .irow (hK _ hk) (by omega) h1 fun d=>?_;have e:g=ψ.len id:=(by omega);rw [c.2 (by omega)];exact hv e
  | @iref id g j off v hk hn h1 hv=>
    have c:=f id hk;refine .iref (hK _ hk) (by omega) h1 fun d=>?_;have e:g=ψ.len id:=(by omega);rw [c.2 (by omega)];exact hv e
  | @bsl id g off len cap v hk hn h1 hv=>
    have c:=f id hk;refine .bsl (hK _ hk) (by omega) h1 fun d=>?_;have e:g=ψ.len id:=(by omega);rw [c.2 (by omega)];exact hv e
  | fn h _ ih=>exact .fn h ih
  | mth h _ ih=>exact .mth h ih
  | any=>exact .any
end Go.Proofs.YtjpkdegjcilndaaGreatDoor
set_option linter.all false
set_option linter.unusedSectionVars false
namespace Go.Proofs.YtjpkdegjcilndaaGreatDoor
open Go Go.RowKit
variable [Dr]
inductive XO where
  | blk (g:Nat) (e:TypeId) (sz:Nat) (cells:List AV)
  | amap (kv:List (Value×AV))
  | imap (kv:List (Int×FV))
  | mit (m since:Nat) (seen:List Nat) (stepped:Nat)
  | opq (J:(Nat->Prop)->List Nat->World->Prop)
inductive AObj where
  | box (e:TypeId) (cells:List AV)
  | frow (e:TypeId) (size:Nat) (xs:List FV)
  | gho (cs:List Value) (vs:List AV)
  | was (ψ0:Env) (ids0:List Nat) (S0:Nat->Prop) (w0:World)
  | smap (kv:List (BA×FV))
  | tab (g:Nat) (ov:Value) (eo ei:TypeId) (rows:List (List Value))
  | glb (gs:List (Nat×Array Value))
  | sit (s:BA) (pos:Nat)
  | memo (Φ:FV->FV->Prop) (hint:Option (Value×Option FV))
  | xo (k:XO)
structure St where
  n:Nat
  tmps:List (Nat×AV)
  heap:List (Nat×AObj)
  ids:List Nat
  dfr:List Deferred:=[]
def aS (s:St) (t:List (Nat×AV)) (o:List (Nat×AObj)):St:=⟨s.n,t++s.tmps,o++s.heap,o.map (·.1)++s.ids,s.dfr⟩
def iS (s:St) (l:List Nat):St:=⟨s.n,s.tmps,s.heap,l,s.dfr⟩
def look (d:AV):List (Nat×AV)->Nat->AV
  | [],_=>d
  | (k,v)::l,t=>bif Nat.beq k t then v else look d l t
def kaa:List (Nat×AObj)->Nat->Option AObj
  | [],_=>none
  | (k,v)::l,t=>bif Nat.beq k t then some v else kaa l t
def St.get (st:St) (t:Nat):AV:=look .any st.tmps t
def St.put (st:St) (d:Option Nat) (v:AV):St:=match d with
  | some d=>{ st with tmps:=(d,v)::st.tmps }
  | none=>st
def k7c:Value->AV
  | .agg cs=>bif cs.toList.all (·.oneCell') then .fz (.agg (cs.toList.map .atom)) else .any
  | .tuple _ => .any
  | v => .fz (.atom v)
def St.eval (st:St):Operand->AV
  | .tmp t=>st.get t
  | .const v=>k7c v
  | .global _ => .any
  | .func f => .fn f []
variable {F S0 S S':Nat->Prop} {N0:Nat} {w w':World} {ψ ψ':Env} {K K':Nat->Prop} {P:Program} {st:St} {a:Act}
theorem Nat.beq_eq_false {k t:Nat} (h:¬ k=t):Nat.beq k t=false:=by
  cases a:Nat.beq k t with
  | false=>rfl
  | true=>exact absurd (qk a) h
theorem kat {d:AV} {l:List (Nat×AV)} {k t:Nat} {v:AV}:look d ((k,v)::l) t=if k=t then v else look d l t:=by
  simp only [look];by_cases h:k=t
  · subst h;simp
  · rw [qi h,Nat.beq_eq_false h];rfl
theorem kac {l:List (Nat×AObj)} {k t:Nat} {v:AObj}:kaa ((k,v)::l) t=if k=t then some v else kaa l t:=by
  simp only [kaa];by_cases h:k=t
  · subst h;simp
  · rw [qi h,Nat.beq_eq_false h];rfl
def GlbR (w:World) (g:Nat) (vs:Array Value):Prop:=(0<vs.size/\∃ e d,w.heap[g]?=some (.cells vs e d))\/(vs=#[]/\∃ m e d,w.heap[g]?=some (.cells #[.int .i64 m] e d))
theorem GlbR.lt {g:Nat} {vs:Array Value} (h:GlbR w g vs):g<w.heap.size:=by rcases h with ⟨_,e,d,h⟩ | ⟨_,m,e,d,h⟩ <;> exact (qak.1 h).1
theorem GlbR.keep {g:Nat} {vs:Array Value} (h:GlbR w g vs) (hk:w'.heap[g]?=w.heap[g]?):GlbR w' g vs:=by
  rcases h with ⟨h0,e,d,h⟩ | ⟨h0,m,e,d,h⟩
  · exact .inl ⟨h0,e,d,hk.trans h⟩
  · exact .inr ⟨h0,m,e,d,hk.trans h⟩
def HintR (S:Nat->Prop) (w:World):Option (Value×Option FV)->List MapEntry->Prop
  | none,_=>True
  | some (k,none),l=>∀ e∈l,e.key≠k
  | some (k,some vx),l=>∃ l1 e l2,l=l1++e::l2/\(∀ x∈l1,x.key≠k)/\e.key=k/\RF S w e.val vx
def MemoR (S:Nat->Prop) (w:World) (Φ:FV->FV->Prop) (h:Option (Value×Option FV)) (l:List MapEntry):Prop:=
  (∀ e∈l,∃ kx vx,Φ kx vx/\RF S w e.key kx/\RF S w e.val vx)/\HintR S w h l
theorem MemoR.keep {Φ:FV->FV->Prop} {h:Option (Value×Option FV)} {l:List MapEntry} (m:MemoR S w Φ h l) (hS:∀ b,S b->S' b) (hk:Same S w w'):MemoR S' w' Φ h l:=by
  refine ⟨fun e d=>?_,?_⟩
  · obtain ⟨kx,vx,h1,a,c⟩:=m.1 e d
    exact ⟨kx,vx,h1,(a.keep hk).mono hS,(c.keep hk).mono hS⟩
  · match h,m.2 with
    | none,_=>trivial
    | some (k,none),h=>exact h
    | some (k,some vx),⟨l1,e,l2,h1,a,c,f⟩=>exact ⟨l1,e,l2,h1,a,c,(f.keep hk).mono hS⟩
def OpqC (J:(Nat->Prop)->List Nat->World->Prop) (S:Nat->Prop) (bs:List Nat) (w:World):Prop:=
  ∀ (S':Nat->Prop) (w':World),(∀ b,S b->S' b)->(∀ b,S' b->b<w'.heap.size)->(∀ b∈bs,¬ S' b)->Same S w w'->(∀ b∈bs,w'.heap[b]?=w.heap[b]?)->J S' bs w'
def XobR (ψ:Env) (K S:Nat->Prop) (w:World) (id:Nat):XO->Prop
  | .blk g e sz cells=>ψ.len id=g/\0<sz/\∃ b cs n cap,ψ.val id = .slice (some ⟨b,0,none⟩) n cap/\w.heap[b]?=some (.cells cs e (0,0))/\cs.size=cap*sz/\cap<=9223372036854775807/\cells.length<=cs.size/\(∀ x∈cells,x.single=true) /\
      ∀ (i:Nat) (v:Value) (x:AV),cs[i]?=some v->cells[i]?=some x->RV ψ K S w v x
  | .amap kv=>ψ.len id=0/\∃ b es,ψ.val id = .map (some b)/\w.heap[b]?=some (.map es kv.length)/\es.size=kv.length /\
      ∀ (i:Nat) (e:MapEntry) (p:Value×AV),es[i]?=some e->kv[i]?=some p->e.key=p.1/\e.born=i/\RV ψ K S w e.val p.2
  | .imap kv=>ψ.len id=0/\∃ b es,ψ.val id = .map (some b)/\w.heap[b]?=some (.map es kv.length)/\es.size=kv.length /\
      ∀ (i:Nat) (e:MapEntry) (p:Int×FV),es[i]?=some e->kv[i]?=some p->e.key = .int .i64 p.1/\e.born=i/\RF S w e.val p.2
  | .mit m since seen stepped=>ψ.len id=0/\K m/\∃ b bm,ψ.val id = .pointer (some ⟨b,0,none⟩)/\w.heap[b]?=some (.mapIter (some bm) since seen.toArray stepped)/\(0=ψ.len m->ψ.val m = .map (some bm))
  | .opq J=>∃ bs:List Nat,ψ.val id = .tuple (bs.map fun b => .pointer (some ⟨b,0,none⟩)).toArray/\(∀ b∈bs,b<w.heap.size)/\OpqC J S bs w
def ObR (ψ:Env) (K S:Nat->Prop) (w:World) (id:Nat):AObj->Prop
  | .box e cells=>ψ.len id=0/\∃ b cs,ψ.val id = .pointer (some ⟨b,0,none⟩)/\w.heap[b]?=some (.cells cs e (0,0))/\cs.size=cells.length/\(∀ x∈cells,x.single=true) /\
      ∀ (i:Nat) (v:Value) (x:AV),cs[i]?=some v->cells[i]?=some x->RV ψ K S w v x
  | .frow e size xs=>ψ.len id=xs.length/\0<size/\∃ cs:List Value,w.ownsRow 0 e size (ψ.val id) xs.length cs/\(∀ x∈xs,x.cells.length=size/\∀ y∈x.cells,y.single=true) /\
      ∀ (i:Nat) (x:FV) (j:Nat) (v:Value) (y:FV),xs[i]?=some x->cs[i*size+j]?=some v->x.cells[j]?=some y->RF S w v y
  | .gho cs vs=>ψ.len id=0/\kak (ψ.val id)=none/\kfi (ψ.val id)=[]/\∀ (i:Nat) (v:Value) (x:AV),cs[i]?=some v->vs[i]?=some x->RV ψ K S w v x
  | .was ψ0 ids0 S0 w0=>ψ.len id=0/\kak (ψ.val id)=none/\kfi (ψ.val id)=[]/\Ext (·∈ids0) ψ0 ψ/\(∀ i,i∈ids0->K i)/\(∀ b,S0 b->S b)/\Same S0 w0 w
  | .smap kv=>ψ.len id=0/\∃ b es clock,ψ.val id = .map (some b)/\w.heap[b]?=some (.map es clock)/\es.size=kv.length /\
      ∀ (i:Nat) (e:MapEntry) (p:BA×FV),es[i]?=some e->kv[i]?=some p->e.key = .string p.1/\RF S w e.val p.2
  | .tab g ov eo ei rows=>ψ.len id=g/\∃ vs:List Value,ψ.val id = .tuple (ov::vs).toArray/\vs.length=rows.length/\w.ownsRow 0 eo 1 ov rows.length vs /\
      (∀ (j:Nat) (v:Value) (xs:List Value),vs[j]?=some v->rows[j]?=some xs->w.ownsRow 0 ei 1 v xs.length xs/\∀ u∈xs,u.oneCell'=true) /\
      ∀ (i j:Nat) (u v:Value) (b:Nat),(ov::vs)[i]?=some u->(ov::vs)[j]?=some v->i≠j->kak u=some b->kak v≠some b
  | .glb gs=>ψ.len id=0/\kak (ψ.val id)=none/\kfi (ψ.val id)=[]/\∀ p,p∈gs->S p.1/\GlbR w p.1 p.2
  | .sit s pos=>ψ.len id=0/\∃ b,ψ.val id = .pointer (some ⟨b,0,none⟩)/\w.heap[b]?=some (.stringIter s pos)
  | .memo Φ h=>ψ.len id=0/\∃ b es clock,ψ.val id = .map (some b)/\w.heap[b]?=some (.map es clock)/\MemoR S w Φ h es.toList
  | .xo k=>XobR ψ K S w id k
theorem Ext.trans' {ids:List Nat} {K:Nat->Prop} {ψ0 ψ ψ':Env} (h:Ext (·∈ids) ψ0 ψ) (k:Ext K ψ ψ') (hs:∀ i,i∈ids->K i):Ext (·∈ids) ψ0 ψ':=fun i hi=>by obtain ⟨h1,a⟩:=h i hi;obtain ⟨k1,k2⟩:=k i (hs i hi);exact ⟨by omega,fun e=>by rw [k2 (by omega),a (by omega)]⟩
theorem Same.trans' {S0 S:Nat->Prop} {w0 w w':World} (h:Same S0 w0 w) (k:Same S w w') (hs:∀ b,S0 b->S b):Same S0 w0 w':=fun b a hl=>by have h1:=h b a hl;rw [qbf hl] at h1;obtain ⟨c,_⟩:=qak.1 h1;rw [k b (hs b a) c,h1,qbf hl]
theorem kha {v:Value} {b:Nat} (h:v.ownBlock=some b):kak v=some b:=by
  unfold Value.ownBlock at h;split at h
  · exact h
  · cases h
theorem kgn {base e size n:Nat} {v:Value} {cs:List Value} (h:w.ownsRow base e size v n cs) (hk:∀ b,v.ownBlock=some b->w'.heap[b]?=w.heap[b]?):w'.ownsRow base e size v n cs:=by obtain ⟨h1,a⟩:=h;refine ⟨h1,a.imp id ?_⟩;rintro ⟨g,cap,cur,rfl,c,d,r⟩;exact ⟨g,cap,cur,rfl,c,by rw [hk g rfl];exact d,r⟩
theorem blk_ptrs {bs:List Nat} {b:Nat}:Blk (.tuple (bs.map fun b => .pointer (some ⟨b,0,none⟩)).toArray) b↔b∈bs:=by
  constructor
  · rintro (h | ⟨u,d,a⟩)
    · cases h
    · simp only [kfi] at d
      obtain ⟨c,hc,rfl⟩:=qas.1 d;injection a with a;exact a ▸ hc
  · intro h
    exact .inr ⟨_,by simp only [kfi];exact List.mem_map_of_mem h,rfl⟩
theorem XobR.keep {id:Nat} {o:XO} (h:XobR ψ K S w id o) (r:Ext K ψ ψ') (hK:∀ id,K id->K' id) (hS:∀ b,S b->S' b) (hk:Same S w w')
    (a:ψ'.len id=ψ.len id/\ψ'.val id=ψ.val id) (l:∀ b,Blk (ψ.val id) b->w'.heap[b]?=w.heap[b]?):XobR ψ' K' S' w' id o:=by
  cases o with
  | blk g e sz cells=>
    obtain ⟨h0,t,b,cs,n,cap,h1,d,f,j,u,y,z⟩:=h;exact ⟨by rw [a.1,h0],t,b,cs,n,cap,by rw [a.2,h1],by rw [l b (.of (by rw [h1];rfl))];exact d,f,j,u,y,fun i v x hv hx=>(z i v x hv hx).keep r hK hS hk⟩
  | amap kv=>
    obtain ⟨h0,b,es,h1,d,f,j⟩:=h;exact ⟨by rw [a.1,h0],b,es,by rw [a.2,h1],by rw [l b (.of (by rw [h1];rfl))];exact d,f,fun i e p k hp=>⟨(j i e p k hp).1,(j i e p k hp).2.1,(j i e p k hp).2.2.keep r hK hS hk⟩⟩
  | imap kv=>
    obtain ⟨h0,b,es,h1,d,f,j⟩:=h;exact ⟨by rw [a.1,h0],b,es,by rw [a.2,h1],by rw [l b (.of (by rw [h1];rfl))];exact d,f,fun i e p k hp=>⟨(j i e p k hp).1,(j i e p k hp).2.1,((j i e p k hp).2.2.keep hk).mono hS⟩⟩
  | mit m since seen stepped=>
    obtain ⟨h0,hm,b,bm,h1,d,f⟩:=h;refine ⟨by rw [a.1,h0],hK _ hm,b,bm,by rw [a.2,h1],by rw [l b (.of (by rw [h1];rfl))];exact d,fun hn=>?_⟩;have k:=r m hm;rw [k.2 (by omega)];exact f (by omega)
  | opq J=>
    obtain ⟨bs,h1,d,f⟩:=h;have q:∀ b∈bs,w'.heap[b]?=w.heap[b]?:=fun b c=>l b (by rw [h1];exact blk_ptrs.2 c);refine ⟨bs,by rw [a.2,h1],fun b c=>?_,fun S2 w2 q1 q4 q5 q2 q3=>f S2 w2 (fun b s=>q1 b (hS b s)) q4 q5 (hk.trans' q2 hS) fun b c=>(q3 b c).trans (q b c)⟩;have:=q b c;rw [qbf (d b c)] at this;exact (qak.1 this).1
theorem XobR.lt {id:Nat} {o:XO} (h:XobR ψ K S w id o) {b:Nat} (a:Blk (ψ.val id) b):b<w.heap.size:=by
  have key:∀ {b:Nat} {x},w.heap[b]?=some x->b<w.heap.size:=fun {b x} h=>(qak.1 h).1;cases o with
  | blk g e sz cells=>
    obtain ⟨h0,d,b',cs,n,cap,h1,c,_⟩:=h;rw [h1] at a;have a:=a.sl;injection a with a;subst a;exact key c
  | amap kv=>
    obtain ⟨h0,b',es,h1,c,_⟩:=h;rw [h1] at a;have a:=a.mp;injection a with a;subst a;exact key c
  | imap kv=>
    obtain ⟨h0,b',es,h1,c,_⟩:=h;rw [h1] at a;have a:=a.mp;injection a with a;subst a;exact key c
  | mit m since seen stepped=>
    obtain ⟨h0,hm,b',bm,h1,c,_⟩:=h;rw [h1] at a;have a:=a.pt;injection a with a;subst a;exact key c
  | opq J=>
    obtain ⟨bs,h1,c,f⟩:=h;rw [h1] at a;exact c b (blk_ptrs.1 a)
theorem ObR.keep {id:Nat} {o:AObj} (h:ObR ψ K S w id o) (q:Ext K ψ ψ') (hK:∀ id,K id->K' id) (hS:∀ b,S b->S' b) (hk:Same S w w')
    (a:ψ'.len id=ψ.len id/\ψ'.val id=ψ.val id) (f:∀ b,Blk (ψ.val id) b->w'.heap[b]?=w.heap[b]?):ObR ψ' K' S' w' id o:=by
  cases o with
  | box e cells=>
    obtain ⟨h0,b,cs,h1,c,d,m,n⟩:=h;exact ⟨by rw [a.1,h0],b,cs,by rw [a.2,h1],by rw [f b (.of (by rw [h1];rfl))];exact c,d,m,fun i v x hv hx=>(n i v x hv hx).keep q hK hS hk⟩
  | frow e size xs=>
    obtain ⟨h0,hs,cs,h1,c,d⟩:=h;refine ⟨by rw [a.1,h0],hs,cs,?_,c,fun i x j v y hx hv hy=>((d i x j v y hx hv hy).keep hk).mono hS⟩;rw [a.2];exact kgn h1 fun b l=>f b (.of (kha l))
  | gho cs vs=>
    obtain ⟨h0,h1,hn,d⟩:=h;exact ⟨by rw [a.1,h0],by rw [a.2,h1],by rw [a.2,hn],fun i v x hv hx=>(d i v x hv hx).keep q hK hS hk⟩
  | was ψ0 ids0 S0 w0=>
    obtain ⟨h0,h1,hn,c,d,m,n⟩:=h;exact ⟨by rw [a.1,h0],by rw [a.2,h1],by rw [a.2,hn],c.trans' q d,fun i hi=>hK i (d i hi),fun b f=>hS b (m b f),n.trans' hk m⟩
  | xo k=>exact XobR.keep h q hK hS hk a f
  | sit s pos=>
    obtain ⟨h0,b,h1,c⟩:=h;exact ⟨by rw [a.1,h0],b,by rw [a.2,h1],by rw [f b (.of (by rw [h1];rfl))];exact c⟩
  | glb gs=>
    obtain ⟨h0,h1,hn,c⟩:=h;refine ⟨by rw [a.1,h0],by rw [a.2,h1],by rw [a.2,hn],fun p hp=>?_⟩;obtain ⟨q1,q2⟩:=c p hp;exact ⟨hS _ q1,q2.keep (hk p.1 q1 q2.lt)⟩
  | memo Φ hi=>
    obtain ⟨h0,b,es,clock,h1,c,d⟩:=h;exact ⟨by rw [a.1,h0],b,es,clock,by rw [a.2,h1],by rw [f b (.of (by rw [h1];rfl))];exact c,d.keep hS hk⟩
  | smap kv=>
    obtain ⟨h0,b,es,clock,h1,c,d,m⟩:=h;exact ⟨by rw [a.1,h0],b,es,clock,by rw [a.2,h1],by rw [f b (.of (by rw [h1];rfl))];exact c,d,fun i e p r hp=>⟨(m i e p r hp).1,((m i e p r hp).2.keep hk).mono hS⟩⟩
  | tab g ov eo ei rows=>
    obtain ⟨h0,vs,h1,c,d,m,n⟩:=h;have t:∀ u b,u∈ov::vs->kak u=some b->Blk (ψ.val id) b:=fun u b z f=>(by rw [h1];exact .inr ⟨u,by simpa [kfi] using z,f⟩);refine ⟨by rw [a.1,h0],vs,by rw [a.2,h1],c,kgn d fun b l=>f b (t ov b (qu ..) (kha l)),fun j v xs hv hx=>?_,n⟩;obtain ⟨k1,k2⟩:=m j v xs hv hx;exact ⟨kgn k1 fun b l=>f b (t v b (qh _ (qn hv)) (kha l)),k2⟩
theorem k03 {e size n:Nat} {v:Value} {cs:List Value} (h:w.ownsRow 0 e size v n cs) {b:Nat} (a:kak v=some b):b<w.heap.size:=by
  have key:∀ {b:Nat} {x},w.heap[b]?=some x->b<w.heap.size:=fun {b x} h=>by
    rcases qbb b w.heap.size with c | c
    · exact c
    · simp [Array.getElem?_eq_none c] at h
  rcases h.2 with ⟨hv,_⟩ | ⟨g,cap,cur,hv,_,d,_⟩
  · rw [hv] at a;cases a
  · rw [hv] at a;injection a with a;subst a;exact key d
theorem ObR.lt {id:Nat} {o:AObj} (h:ObR ψ K S w id o) {b:Nat} (a:Blk (ψ.val id) b):b<w.heap.size:=by
  have key:∀ {b:Nat} {x},w.heap[b]?=some x->b<w.heap.size:=fun {b x} h=>by
    rcases qbb b w.heap.size with f | f
    · exact f
    · simp [Array.getElem?_eq_none f] at h
  cases o with
  | box e cells=>
    obtain ⟨h0,b',cs,h1,c,_⟩:=h;rw [h1] at a;have a:=a.pt;injection a with a;subst a;exact key c
  | frow e size xs=>
    obtain ⟨h0,hs,cs,⟨_,h1⟩,_⟩:=h;rcases h1 with ⟨hv,_⟩ | ⟨g,cap,cur,hv,_,j,_⟩
    · rw [hv] at a;have a:=a.sl;cases a
    · rw [hv] at a;have a:=a.sl;injection a with a;subst a;exact key j
  | gho cs vs=>
    obtain ⟨h0,h1,c,_⟩:=h;rcases a with a | ⟨u,d,_⟩
    · rw [h1] at a;cases a
    · rw [c] at d;cases d
  | was ψ0 ids0 S0 w0=>
    obtain ⟨h0,h1,c,_⟩:=h;rcases a with a | ⟨u,d,_⟩
    · rw [h1] at a;cases a
    · rw [c] at d;cases d
  | xo k=>exact XobR.lt h a
  | sit s pos=>
    obtain ⟨h0,b',h1,c⟩:=h;rw [h1] at a;have a:=a.pt;injection a with a;subst a;exact key c
  | glb gs=>
    obtain ⟨h0,h1,c,_⟩:=h;rcases a with a | ⟨u,d,_⟩
    · rw [h1] at a;cases a
    · rw [c] at d;cases d
  | memo Φ hi=>
    obtain ⟨h0,b',es,clock,h1,c,_⟩:=h;rw [h1] at a;have a:=a.mp;injection a with a;subst a;exact key c
  | smap kv=>
    obtain ⟨h0,b',es,clock,h1,c,_⟩:=h;rw [h1] at a;have a:=a.mp;injection a with a;subst a;exact key c
  | tab g ov eo ei rows=>
    obtain ⟨h0,vs,h1,c,l,m,n⟩:=h;rw [h1] at a;rcases a with a | ⟨u,d,a⟩
    · cases a
    · simp only [kfi] at d
      rcases qac.1 d with rfl | d
      · exact k03 l a
      · obtain ⟨i,hi,rfl⟩:=qai.1 d
        exact k03 (m i vs[i] (rows[i]'(by omega)) (qb hi) (qb (by omega))).1 a
structure Core (F S0:Nat->Prop) (N0:Nat) (heap:List (Nat×AObj)) (ids:List Nat) (ψ:Env) (S:Nat->Prop) (w:World):Prop where
  obj:∀ id o,kaa heap id=some o->id∈ids/\ObR ψ (·∈ids) S w id o/\∀ b,Blk (ψ.val id) b->¬ S b/\¬ F b/\(S0 b\/N0<=b)
  inj:∀ id id' o o' b,kaa heap id=some o->kaa heap id'=some o'->id≠id'->Blk (ψ.val id) b->¬ Blk (ψ.val id') b
  lt:∀ b,S b->b<w.heap.size
  s0:∀ b,S b->S0 b\/N0<=b
  n0:N0<=w.heap.size
  fr:∀ b,F b->b<w.heap.size
structure Sim (F S0:Nat->Prop) (N0:Nat) (st:St) (ψ:Env) (S:Nat->Prop) (a:Act) (w:World):Prop where
  defers:a.defers=st.dfr
  size:a.tmps.size=st.n
  tmps:∀ t,RV ψ (·∈st.ids) S w (a.tmps.getD t undef) (st.get t)
  core:Core F S0 N0 st.heap st.ids ψ S w
structure Fr (F:Nat->Prop) (w w':World):Prop where
  os:w'.os=w.os
  tape:w'.tape=w.tape
  output:w'.output=w.output
  size:w.heap.size<=w'.heap.size
  block:∀ b,F b->w'.heap[b]?=w.heap[b]?
  drawn:Dr.on=true->w.drawn<=w'.drawn
theorem Fr.refl:Fr F w w:=⟨rfl,rfl,rfl,qx _,fun _ _=>rfl,fun _=>qx _⟩
theorem Fr.trans {w'':World} (h:Fr F w w') (k:Fr F w' w''):Fr F w w'':=⟨k.os.trans h.os,k.tape.trans h.tape,k.output.trans h.output,qav h.size k.size,fun b a=>(k.block b a).trans (h.block b a),fun d=>qav (h.drawn d) (k.drawn d)⟩
theorem Fr.of_grow (a:∀ b,F b->b<w.heap.size) (h:Grow w w'):Fr F w w':=⟨h.os,h.tape,h.output,h.size,fun b c=>h.block b (a b c),h.drawn⟩
theorem Fr.drew:Fr F w w.drew:=⟨rfl,rfl,rfl,qx _,fun _ _=>rfl,fun _=>Nat.le_succ _⟩
theorem Sim.eval_tmps {ids:List Nat} {st:St} (h:∀ t,RV ψ (·∈ids) S w (a.tmps.getD t undef) (st.get t)) (x:Operand):RV ψ (·∈ids) S w (a.eval x) (st.eval x):=by
  cases x with
  | tmp t=>exact h t
  | const v=>
    cases v with
    | agg cs=>
      simp only [St.eval,k7c,Act.eval];cases c:cs.toList.all (·.oneCell') with
      | false=>exact .any
      | true=>
        refine .fz (.agg (by simp) ?_ ?_)
        · intro x hx
          simp only [qas] at hx;obtain ⟨v,hv,rfl⟩:=hx;exact qr.1 c v hv
        · intro i v x hv hx
          simp only [qq,qt,qat] at hx;obtain ⟨u,b,rfl⟩:=hx;rw [hv] at b;injection b with b;subst b;exact .atom (qr.1 c v (by rw [Array.mem_toList_iff];exact Array.mem_of_getElem? hv))
    | tuple=>exact .any
    | _=>exact .fz (.atom rfl)
  | global g=>exact .any
  | func f=>exact .fn rfl (fun i v x hv _=>by simp at hv)
theorem Sim.eval (h:Sim F S0 N0 st ψ S a w) (x:Operand):RV ψ (·∈st.ids) S w (a.eval x) (st.eval x):=Sim.eval_tmps h.tmps x
def StepA (P:Program) (o:Oper) (st:St) (c:AV) (d:List (Nat×AObj)) (ids':List Nat):Prop:=
  ∀ F S0 N0 ψ S a w,Sim F S0 N0 st ψ S a w->ket P o a w fun v w'=>∃ ψ' S',Core F S0 N0 d ids' ψ' S' w'/\RV ψ' (·∈ids') S' w' v c/\Fr F w w' /\
    Ext (·∈st.ids) ψ ψ'/\(∀ id,id∈st.ids->id∈ids')/\(∀ b,S b->S' b)/\Same S w w'
def NStep (P:Program) (o:Oper) (st:St) (c:AV):Prop:=
  ∀ ψ S a w,(∀ t,RV ψ (·∈st.ids) S w (a.tmps.getD t undef) (st.get t))->(∀ id o,kaa st.heap id=some o->ObR ψ (·∈st.ids) S w id o) ->
    ket P o a w fun v w'=>Grow w w'/\RV ψ (·∈st.ids) (fun b=>S b\/w.heap.size<=b) w' v c
theorem Core.grow {heap:List (Nat×AObj)} {ids:List Nat} (h:Core F S0 N0 heap ids ψ S w) (d:Grow w w'):Core F S0 N0 heap ids ψ (fun b=>(S b\/w.heap.size<=b)/\b<w'.heap.size) w':=by
  have hk:Same S w w':=Same.of_grow d;have hS:∀ b,S b->(S b\/w.heap.size<=b)/\b<w'.heap.size:=fun b a=>⟨.inl a,qa8 (h.lt b a) d.size⟩;refine ⟨fun id o g=>?_,h.inj,fun b a=>a.2,fun b a=>?_,qav h.n0 d.size,fun b a=>qa8 (h.fr b a) d.size⟩
  · obtain ⟨h1,e,f⟩:=h.obj id o g
    refine ⟨h1,e.keep Ext.refl (fun _ h=>h) hS hk ⟨rfl,rfl⟩ fun b a=>d.block b (e.lt a),fun b a=>⟨fun hs=>?_,(f b a).2⟩⟩;rcases hs.1 with hs | hs
    · exact (f b a).1 hs
    · have:=e.lt a;omega
  · rcases a.1 with c | c
    · exact h.s0 b c
    · exact .inr (qav h.n0 c)
theorem NStep.step {o:Oper} {c:AV} (h:NStep P o st c):StepA P o st c st.heap st.ids:=by intro F S0 N0 ψ S a w hs;refine kls ?_ (h ψ S a w hs.tmps fun id o f=>(hs.core.obj id o f).2.1);rintro v w' ⟨d,hv⟩;exact ⟨ψ,_,hs.core.grow d,hv.bound,Fr.of_grow hs.core.fr d,Ext.refl,fun _ h=>h,fun b e=>⟨.inl e,qa8 (hs.core.lt b e) d.size⟩,Same.of_grow d⟩
theorem Sim.put {st':St} {d:Option Nat} {v:Value} {c:AV} (h:Sim F S0 N0 st ψ S a w) (hn:st'.n=st.n) (ht:st'.tmps=st.tmps) (f:st'.dfr=st.dfr) (hc:Core F S0 N0 st'.heap st'.ids ψ' S' w') (hv:RV ψ' (·∈st'.ids) S' w' v c)
    (i:Ext (·∈st.ids) ψ ψ') (hK:∀ id,id∈st.ids->id∈st'.ids) (hS:∀ b,S b->S' b) (hk:Same S w w') (hd:∀ t,d=some t->t<st.n):Sim F S0 N0 (st'.put d c) ψ' S' (a.put d v) w':=by
  have base:∀ t,RV ψ' (·∈st'.ids) S' w' (a.tmps.getD t undef) (st'.get t):=fun t=>by have:=h.tmps t;unfold St.get at this ⊢;rw [ht];exact this.keep i hK hS hk
  cases d with
  | none=>exact ⟨h.defers.trans f.symm,by rw [show (st'.put none c)=st' from rfl,hn];exact h.size,base,hc⟩
  | some d=>
    refine ⟨h.defers.trans f.symm,by simp [St.put,Act.put,hn,h.size],fun t=>?_,hc⟩;have g:=hd d rfl;by_cases e:d=t
    · subst e
      have:(a.put (some d) v).tmps.getD d undef=v:=(by simp [Act.put,h.size,g]);rw [this];simp only [St.put,St.get,kat,if_true];exact hv
    · have:(a.put (some d) v).tmps.getD t undef=a.tmps.getD t undef:=by simp only [Act.put];rw [qam,Array.getElem?_setIfInBounds_ne e,<- qam]
      rw [this];simp only [St.put,St.get,kat,qi e];exact base t
def PostA (F S0:Nat->Prop) (N0:Nat) (w:World) (Q:Exit->St->Prop) (e:Exit) (a':Act) (w':World):Prop:=
  ∃ st' ψ' S',Q e st'/\Sim F S0 N0 st' ψ' S' a' w'/\Fr F w w'
def awp [Rd] (P:Program) (c:Code) (st:St) (Q:Exit->St->Prop):Prop:=
  ∀ F S0 N0 ψ S a w,Sim F S0 N0 st ψ S a w->Cwp P c (PostA F S0 N0 w Q) a w
def kaiq (K:St->Prop) (Q:Exit->St->Prop):Exit->St->Prop
  | .normal,st=>K st
  | .outgrown,_=>False
  | e,st=>Q e st
def k2w (id:Nat) (Q:Exit->St->Prop):Exit->St->Prop
  | .exit i,st=>if i=id then Q .normal st else Q (.exit i) st
  | e,st=>Q e st
theorem kv5 [Rd] {c:Code} {Q Q':Exit->St->Prop} (h:awp P c st Q) (b:∀ e st,Q e st->Q' e st):awp P c st Q':=
  fun F S0 N0 ψ S a w hs=>kco (h F S0 N0 ψ S a w hs) fun e a' w' ⟨st',ψ',S',h1,d⟩=>⟨st',ψ',S',b _ _ h1,d⟩
theorem kags [Rd] {Q:Exit->St->Prop} (h:Q .normal st):awp P .skip st Q:=fun F S0 N0 ψ S a w hs=>k9y ⟨st,ψ,S,h,hs,Fr.refl⟩
theorem kag3 [Rd] {id:Nat} {Q:Exit->St->Prop} (h:Q (.exit id) st):awp P (.exit id) st Q:=fun F S0 N0 ψ S a w hs=>kaaq ⟨st,ψ,S,h,hs,Fr.refl⟩
theorem kajm [Rd] {Q:Exit->St->Prop} (h:Q .ret st):awp P .ret st Q:=fun F S0 N0 ψ S a w hs=>kael ⟨st,ψ,S,h,hs,Fr.refl⟩
theorem PostA.pre {Q:Exit->St->Prop} {e:Exit} {a':Act} {w' w'':World} (h:Fr F w w') (k:PostA F S0 N0 w' Q e a' w''):PostA F S0 N0 w Q e a' w'':=
  let ⟨st',ψ',S',h1,a,b⟩:=k;⟨st',ψ',S',h1,a,h.trans b⟩
theorem kajt [Rd] {x y:Code} {Q:Exit->St->Prop} (h:awp P x st (kaiq (fun st=>awp P y st Q) Q)):awp P (.seq x y) st Q:=fun F S0 N0 ψ S a w hs=>
  kxn (kco (h F S0 N0 ψ S a w hs) fun e a' w' ⟨st',ψ',S',h1,b,c⟩=>by
    cases e with
    | normal=>exact kco (h1 F S0 N0 ψ' S' a' w' b) fun e a'' w'' k=>k.pre c
    | outgrown=>exact h1.elim
    | _=>exact ⟨st',ψ',S',h1,b,c⟩)
theorem k7r [Rd] {c:Operand} {x y:Code} {b:Bool} {Q:Exit->St->Prop} (hc:st.eval c = .fz (.atom (.bool b))) (h:awp P (bif b then x else y) st Q):awp P (.cond c x y) st Q:=fun F S0 N0 ψ S a w hs=>by have d:=hs.eval c;rw [hc] at d;refine k94 b d.atom ?_;cases b <;> exact h F S0 N0 ψ S a w hs
theorem kae4 [Rd] {id:Nat} {c:Code} {Q:Exit->St->Prop} (h:awp P c st (k2w id Q)):awp P (.block id c) st Q:=fun F S0 N0 ψ S a w hs=>
  kz6 (kco (h F S0 N0 ψ S a w hs) fun e a' w' ⟨st',ψ',S',h1,b,d⟩=>by
    cases e with
    | exit i=>
      simp only [k2w] at h1;simp only [Exit.inBlock];by_cases hi:i=id
      · rw [qo hi] at h1 ⊢; exact ⟨st',ψ',S',h1,b,d⟩
      · rw [qi hi] at h1 ⊢; exact ⟨st',ψ',S',h1,b,d⟩
    | _=>exact ⟨st',ψ',S',h1,b,d⟩)
def LeSt (st st':St):Prop:=∀ F S0 N0 ψ S a w,Sim F S0 N0 st ψ S a w->∃ ψ' S',Sim F S0 N0 st' ψ' S' a w
theorem kae9 [Rd] {c:Code} {st':St} {Q:Exit->St->Prop} (hl:LeSt st st') (h:awp P c st' Q):awp P c st Q:=fun F S0 N0 ψ S a w hs=>by obtain ⟨ψ',S',b⟩:=hl F S0 N0 ψ S a w hs;exact h F S0 N0 ψ' S' a w b
def kab {σ β:Type} (step:σ->Option (σ ⊕ β)):Nat->σ->Option β
  | 0,_=>none
  | n+1,s=>match step s with
    | none=>none
    | some (.inl s')=>kab step n s'
    | some (.inr b)=>some b
def fuel:Nat:=18446744073709551616
theorem kahb [Rd] {σ β:Type} {step:σ->Option (σ ⊕ β)} {body:Code} {Q:Exit->St->Prop} (stOf:σ->St) {s0:σ} {b:β} {n:Nat} (hl:kab step n s0=some b)
    (h0:LeSt st (stOf s0)) (d:∀ s s',step s=some (.inl s')->awp P body (stOf s) fun e st=>e = .normal/\LeSt st (stOf s'))
    (c:∀ s,step s=some (.inr b)->awp P body (stOf s) fun e st=>e ≠ .normal/\e ≠ .outgrown/\Q e st):awp P (.loop body) st Q:=fun F S0 N0 ψ S a w hs=>by
  obtain ⟨ψ0,S1,f⟩:=h0 F S0 N0 ψ S a w hs;refine koz n ?_;have key:∀ (n:Nat) (s:σ) (ψ:Env) (S:Nat->Prop) (a:Act) (w':World),kab step n s=some b->Sim F S0 N0 (stOf s) ψ S a w'->Fr F w w'->kkz P body (PostA F S0 N0 w Q) n a w':=by
    intro n
    induction n with
    | zero=>intro s ψ S a w' hl;cases hl
    | succ n ih=>
      intro s ψ S a w' hl hs j;rw [kmt];simp only [kab] at hl;cases hst:step s with
      | none=>rw [hst] at hl;cases hl
      | some r=>
        rw [hst] at hl;cases r with
        | inl s'=>
          refine kco (d s s' hst F S0 N0 ψ S a w' hs) ?_;rintro e a' w'' ⟨st',ψ',S',⟨rfl,g⟩,h,i⟩;obtain ⟨ψ2,S2,k⟩:=g F S0 N0 ψ' S' a' w'' h;exact ih s' ψ2 S2 a' w'' hl k (j.trans i)
        | inr b'=>
          obtain rfl:=qw hl;refine kco (c s hst F S0 N0 ψ S a w' hs) ?_;rintro e a' w'' ⟨st',ψ',S',⟨hn,l,m⟩,h,i⟩;cases e with
          | normal=>exact absurd rfl hn
          | outgrown=>exact absurd rfl l
          | _=>exact ⟨st',ψ',S',m,h,j.trans i⟩
  exact key n s0 ψ0 S1 a w hl f Fr.refl
theorem kafj [Rd] {σ:Type} (body:Code) (Q:Exit->St->Prop) (stOf:σ->St) (I:σ->Prop) (μ:σ->Nat) {s0:σ} (j:I s0) (h0:LeSt st (stOf s0)) (k:∀ s,I s->awp P body (stOf s) fun e st=>(e = .normal/\∃ s',(I s'/\μ s'<μ s)/\LeSt st (stOf s'))\/((e ≠ .normal/\e ≠ .outgrown)/\Q e st)):awp P (.loop body) st Q:=fun F S0 N0 ψ S a w hs=>by
  obtain ⟨ψ0,S1,b⟩:=h0 F S0 N0 ψ S a w hs;refine koz (μ s0+1) ?_;have key:∀ (n:Nat) (s:σ) (ψ:Env) (S:Nat->Prop) (a:Act) (w':World),μ s<n->I s->Sim F S0 N0 (stOf s) ψ S a w'->Fr F w w'->kkz P body (PostA F S0 N0 w Q) n a w':=by
    intro n
    induction n with
    | zero=>intro s ψ S a w' hl;omega
    | succ n ih=>
      intro s ψ S a w' hl hi hs g;rw [kmt];refine kco (k s hi F S0 N0 ψ S a w' hs) ?_;rintro e a' w'' ⟨st',ψ',S',c,h,i⟩;rcases c with ⟨rfl,s',⟨d,hm⟩,f⟩ | ⟨⟨hn,l⟩,c⟩
      · obtain ⟨ψ2,S2,m⟩:=f F S0 N0 ψ' S' a' w'' h
        exact ih s' ψ2 S2 a' w'' (by omega) d m (g.trans i)
      · cases e with
        | normal=>exact absurd rfl hn
        | outgrown=>exact absurd rfl l
        | _=>exact ⟨st',ψ',S',c,h,g.trans i⟩
  exact key (μ s0+1) s0 ψ0 S1 a w (by omega) j b Fr.refl
def awpL [Rd] (P:Program) (ops:Array Oper) (l:List Oper) (st:St) (Q:Exit->St->Prop):Prop:=
  ∀ F S0 N0 ψ S a w,Sim F S0 N0 st ψ S a w->kbg P ops (PostA F S0 N0 w Q) l a w
def kbp (ops:Array Oper) (st:St) (o:Oper):Option Bool:=match o.guard with
  | none=>some true
  | some (j,want)=>match (ops[j]?).bind (·.dst) with
    | some t=>match st.get t with
      | .fz (.atom (.bool b))=>some (b == want)
      | .fz (.tup _)=>some false
      | _=>none
    | none=>none
theorem kzl {ops:Array Oper} {a:Act} {t j:Nat} {want:Bool} {xs:List FV} (hv:RF S w (a.tmps.getD t undef) (.tup xs)) (ht:(ops[j]?).bind (·.dst)=some t):(yielded ops a.tmps j == some want)=false:=by
  rw [qam] at hv;simp only [yielded,ht,qa];cases b:a.tmps[t]? with
  | none=>rfl
  | some u=>
    rw [b] at hv;simp only [qbj] at hv;cases hv with
    | tup=>rfl
theorem kew {ops:Array Oper} {o:Oper} {g:Bool} (hs:Sim F S0 N0 st ψ S a w) (h:kbp ops st o=some g):Region.wanted o (yielded ops a.tmps)=g:=by
  unfold kbp at h;unfold Region.wanted;split at h
  · rename_i e
    rw [e];injection h
  · rename_i j want e
    rw [e];split at h
    · rename_i t ht
      have hv:=hs.tmps t;split at h
      · rename_i b f
        rw [f] at hv;injection h with h;subst h;have c:a.tmps.getD t undef = .bool b:=hv.atom;rw [qam] at c;have d:a.tmps[t]?=some (.bool b):=by
          cases d:a.tmps[t]? with
          | none=>rw [d] at c;cases c
          | some u=>rw [d] at c;simp only [qbj] at c;rw [c]
        simp only [yielded,ht,qa,d];cases b <;> cases want <;> rfl
      · rename_i xs f
        rw [f] at hv;injection h with h;subst h;exact kzl hv.inv ht
      · cases h
    · cases h
theorem l_nil [Rd] {ops:Array Oper} {Q:Exit->St->Prop} (h:Q .normal st):awpL P ops [] st Q:=fun F S0 N0 ψ S a w hs=>⟨st,ψ,S,h,hs,Fr.refl⟩
theorem k2d [Rd] {ops:Array Oper} {o:Oper} {l:List Oper} {c:AV} {b:List (Nat×AObj)} {ids':List Nat} {Q:Exit->St->Prop} (h:StepA P o st c b ids') (d:kbp ops st o=some true) (hd:∀ t,o.dst=some t->t<st.n)
    (hn:awpL P ops l (({ st with heap:=b,ids:=ids' }:St).put o.dst c) Q):awpL P ops (o::l) st Q:=fun F S0 N0 ψ S a w hs=>by
  unfold kbg;rw [kew hs d];refine (kjm ?_ (h F S0 N0 ψ S a w hs));rintro v w' ⟨ψ',S',h1,f,g,i,j,m,p⟩;exact kdn (fun e a' w'' k=>k.pre g) _ _ _ (hn F S0 N0 ψ' S' _ w' (hs.put (st':={ st with heap:=b,ids:=ids' }) rfl rfl rfl h1 f i j m p hd))
def kgr (P:Program) (o:Oper) (st:St) (R:AV->List (Nat×AObj)->List Nat->Prop):Prop:=
  ∀ F S0 N0 ψ S a w,Sim F S0 N0 st ψ S a w->ket P o a w fun v w'=>∃ c d ids',R c d ids'/\∃ ψ' S',Core F S0 N0 d ids' ψ' S' w'/\RV ψ' (·∈ids') S' w' v c/\Fr F w w' /\
    Ext (·∈st.ids) ψ ψ'/\(∀ id,id∈st.ids->id∈ids')/\(∀ b,S b->S' b)/\Same S w w'
theorem kalk [Rd] {ops:Array Oper} {o:Oper} {l:List Oper} {R:AV->List (Nat×AObj)->List Nat->Prop} {Q:Exit->St->Prop} (h:kgr P o st R) (d:kbp ops st o=some true) (hd:∀ t,o.dst=some t->t<st.n)
    (hn:∀ c b ids',R c b ids'->awpL P ops l (({ st with heap:=b,ids:=ids' }:St).put o.dst c) Q):awpL P ops (o::l) st Q:=fun F S0 N0 ψ S a w hs=>by
  unfold kbg;rw [kew hs d];refine (kjm ?_ (h F S0 N0 ψ S a w hs));rintro v w' ⟨c,b,ids',f,ψ',S',h1,g,i,j,m,p,q⟩;exact kdn (fun e a' w'' k=>k.pre i) _ _ _ (hn c b ids' f F S0 N0 ψ' S' _ w' (hs.put (st':={ st with heap:=b,ids:=ids' }) rfl rfl rfl h1 g j m p q hd))
theorem kam4 [Rd] {ops:Array Oper} {o:Oper} {l:List Oper} {Q:Exit->St->Prop} (b:kbp ops st o=some false) (hd:∀ t,o.dst=some t->t<st.n) (hn:awpL P ops l (st.put o.dst (.fz (.tup []))) Q):awpL P ops (o::l) st Q:=fun F S0 N0 ψ S a w hs=>by unfold kbg;rw [kew hs b];exact hn F S0 N0 ψ S _ w (hs.put (st':=st) rfl rfl rfl hs.core (.fz RF.undef) Ext.refl (fun _ h=>h) (fun _ h=>h) (fun _ _ _=>rfl) hd)
theorem l_le [Rd] {ops:Array Oper} {l:List Oper} {st':St} {Q:Exit->St->Prop} (hl:LeSt st st') (h:awpL P ops l st' Q):awpL P ops l st Q:=fun F S0 N0 ψ S a w hs=>by obtain ⟨ψ',S',b⟩:=hl F S0 N0 ψ S a w hs;exact h F S0 N0 ψ' S' a w b
theorem kace [Rd] {id:Nat} {ops:Array Oper} {Q:Exit->St->Prop} (h:awpL P ops ops.toList st Q):awp P (.region id ops false) st Q:=fun F S0 N0 ψ S a w hs=>ko7 (h F S0 N0 ψ S a w hs)
end Go.Proofs.YtjpkdegjcilndaaGreatDoor
set_option linter.all false
set_option linter.unusedSectionVars false
namespace Go.Proofs.YtjpkdegjcilndaaGreatDoor
open Go Go.RowKit
variable [Dr]
inductive TK where
  | bool
  | int (k:IntKind)
  | str
  | ptr (e:TypeId)
  | slice (e:TypeId)
  | map (k e:TypeId)
  | fn
  | ifc
  | arr (n:Nat) (e:TypeId)
  | st (fs:List (TypeId×Nat))
structure TD where
  size:Nat
  bytes:Nat
  kind:TK
  zero:List Value
def TK.agg:TK->Bool
  | .arr _ _=>true
  | .st _=>true
  | _=>false
def kg3:TypeDesc->TK->Prop
  | .bool, .bool=>True
  | .int k, .int k'=>k=k'
  | .string, .str=>True
  | .pointer e, .ptr e'=>e=e'
  | .slice e, .slice e'=>e=e'
  | .map k e, .map k' e'=>k=k'/\e=e'
  | .func _ _ _, .fn=>True
  | .interface _, .ifc=>True
  | .array n e, .arr n' e'=>n=n'/\e=e'
  | .struct fs, .st gs=>fs.toList.map (fun f=>(f.type,f.offset))=gs
  | _,_=>False
def TdOk (P:Program) (t:TypeId) (d:TD):Prop:=
  (∃ i z,P.info? t=some i/\i.size=d.size/\i.bytes=d.bytes/\i.zero=some z/\z.cells.toList=d.zero)/\∃ e,P.underlying t=some e/\kg3 e d.kind
def kad:List (TypeId×TD)->TypeId->Option TD
  | [],_=>none
  | (k,v)::l,t=>bif Nat.beq k t then some v else kad l t
def TOk (P:Program) (T:List (TypeId×TD)):Prop:=∀ p∈T,TdOk P p.1 p.2
theorem TOk.get {P:Program} {T:List (TypeId×TD)} (h:TOk P T) {t:TypeId} {d:TD} (ht:kad T t=some d):TdOk P t d:=by
  induction T with
  | nil=>cases ht
  | cons p l ih=>
    obtain ⟨k,v⟩:=p;simp only [kad] at ht;by_cases hk:k=t
    · subst hk
      simp only [Nat.beq_refl,qe,qc] at ht;subst ht;exact h _ (qu ..)
    · rw [Nat.beq_eq_false hk] at ht
      exact ih (fun p hp=>h p (qh _ hp)) ht
def kOf:TypeDesc->Option TK
  | .bool=>some .bool
  | .int k=>some (.int k)
  | .string=>some .str
  | .pointer e=>some (.ptr e)
  | .slice e=>some (.slice e)
  | .map k e=>some (.map k e)
  | .func _ _ _=>some .fn
  | .interface _=>some .ifc
  | .array n e=>some (.arr n e)
  | .struct fs=>some (.st (fs.toList.map (fun f=>(f.type,f.offset))))
  | _=>none
theorem kamb {e:TypeDesc} {k:TK} (h:kOf e=some k):kg3 e k:=by cases e <;> first | (injection h with h;subst h;simp [kg3]) | cases h
def tdOf (P:Program) (t:TypeId):Option TD:=match P.info? t,P.underlying t with
  | some i,some e=>match i.zero,kOf e with
    | some z,some k=>some ⟨i.size,i.bytes,k,z.cells.toList⟩
    | _,_=>none
  | _,_=>none
theorem kakj {P:Program} {t:TypeId} {d:TD} (h:tdOf P t=some d):TdOk P t d:=by
  unfold tdOf at h;split at h
  · rename_i i e hi a
    split at h
    · rename_i z k b hk
      injection h with h;subst h;exact ⟨⟨i,z,hi,rfl,rfl,b,rfl⟩,e,a,kamb hk⟩
    · cases h
  · cases h
theorem kad4 {P:Program}:∀ {T:List (TypeId×TD)},T.map (fun p=>tdOf P p.1)=T.map (fun p=>some p.2)->TOk P T
  | [],_=>fun p hp=>by cases hp
  | x::l,h=>by
    simp only [qa0,List.cons.injEq] at h;intro p hp;rcases qac.1 hp with rfl | hp
    · exact kakj h.1
    · exact kad4 h.2 p hp
def intV (k:IntKind) (op:BinOp) (a b:Int):Option Value:=match op with
  | .add=>some (.int k (k.wrap (a+b)))
  | .sub=>some (.int k (k.wrap (a - b)))
  | .mul=>some (.int k (k.wrap (a*b)))
  | .quo=>if b=0 then none else some (.int k (k.wrap (a.tdiv b)))
  | .rem=>if b=0 then none else some (.int k (a.tmod b))
  | .and=>some (.int k (k.wrap (BitVec.ofInt k.bits a &&& BitVec.ofInt k.bits b).toNat))
  | .or=>some (.int k (k.wrap (BitVec.ofInt k.bits a ||| BitVec.ofInt k.bits b).toNat))
  | .xor=>some (.int k (k.wrap (BitVec.ofInt k.bits a ^^^ BitVec.ofInt k.bits b).toNat))
  | .andNot=>some (.int k (k.wrap (BitVec.ofInt k.bits a &&& ~~~BitVec.ofInt k.bits b).toNat))
  | .eql=>some (.bool (a == b))
  | .neq=>some (.bool (a != b))
  | .lss=>some (.bool (decide (a<b)))
  | .leq=>some (.bool (decide (a<=b)))
  | .gtr=>some (.bool (decide (b<a)))
  | .geq=>some (.bool (decide (b<=a)))
  | _=>none
def shV (k:IntKind) (op:BinOp) (a b:Int):Option Value:=match op with
  | .shl=>if b<0 then none else some (.int k (k.wrap (a*2 ^ (min b.toNat k.bits))))
  | .shr=>if b<0 then none else some (.int k (a.fdiv (2 ^ (min b.toNat k.bits))))
  | _=>none
def strV (op:BinOp) (x y:BA):Option Value:=match op with
  | .eql=>some (.bool (x.toList == y.toList))
  | .neq=>some (.bool !(x.toList == y.toList))
  | .lss=>some (.bool (Op.bytesLess x.toList y.toList))
  | .leq=>some (.bool (Op.bytesLess x.toList y.toList || x.toList == y.toList))
  | .gtr=>some (.bool !(Op.bytesLess x.toList y.toList || x.toList == y.toList))
  | .geq=>some (.bool !(Op.bytesLess x.toList y.toList))
  | _=>none
def binV (bt:Bool) (op:BinOp):Value->Value->Option Value
  | .int k a, .int k' b=>match op with
    | .shl=>shV k .shl a b
    | .shr=>shV k .shr a b
    | op=>if k=k' then intV k op a b else none
  | .string x, .string y=>strV op x y
  | .bool x, .bool y=>match bt,op with
    | true, .eql=>some (.bool (x == y))
    | true, .neq=>some (.bool (!(x == y)))
    | _,_=>none
  | _,_=>none
def unV (op:UnOp):Value->Option Value
  | .int k n=>match op with
    | .neg=>some (.int k (k.wrap (0 - n)))
    | .xor=>some (.int k (k.wrap (BitVec.ofInt k.bits (if k.signed then -1 else k.max) ^^^ BitVec.ofInt k.bits n).toNat))
    | _=>none
  | .bool b=>match op with
    | .not=>some (.bool !b)
    | _=>none
  | _=>none
variable {P:Program} {w w':World} {S S':Nat->Prop} {ψ:Env} {K:Nat->Prop} {T:List (TypeId×TD)} {o:Oper} {a:Act} {st:St}
theorem kaem {op:BinOp} {t:TypeId} {k:IntKind} {a b:Int} {v:Value} (hs:op ≠ .shl/\op ≠ .shr) (h:intV k op a b=some v):(binOp op t (.int k a) (.int k b)).run P w = .ok v w:=by
  cases op <;> simp only [intV] at h <;> first
    | exact absurd rfl hs.1
    | exact absurd rfl hs.2
    | (injection h with h;subst h;simp only [binOp,ne_eq,not_true_eq_false,if_false];rfl)
    | (split at h
       · cases h
       · rename_i c
         injection h with h;subst h;simp only [binOp,ne_eq,not_true_eq_false,if_false,Op.intDiv,qi c];rfl)
theorem k61 {op:BinOp} {t:TypeId} {k k':IntKind} {a b:Int} {v:Value} (hs:op = .shl\/op = .shr) (h:shV k op a b=some v):(binOp op t (.int k a) (.int k' b)).run P w = .ok v w:=by
  rcases hs with rfl | rfl <;> simp only [shV] at h <;>
    (split at h
     · cases h
     · rename_i c
       injection h with h;subst h;simp only [binOp,Op.shift,qi c];rfl)
theorem kaet {op:BinOp} {t:TypeId} {x y:BA} {v:Value} (h:strV op x y=some v):(binOp op t (.string x) (.string y)).run P w = .ok v w:=by
  cases op <;> simp only [strV] at h <;> first
    | (injection h with h;subst h;rfl)
    | cases h
theorem kafq {bt:Bool} {op:BinOp} {t:TypeId} {x y v:Value} (e:bt=true->P.underlying t=some .bool) (h:binV bt op x y=some v):(binOp op t x y).run P w = .ok v w:=by
  cases x <;> cases y <;> simp only [binV] at h <;> try cases h
  case int.int k a k' b=>
    by_cases h1:op = .shl
    · subst h1;exact k61 (.inl rfl) h
    by_cases c:op = .shr
    · subst c;exact k61 (.inr rfl) h
    have d:(if k=k' then intV k op a b else none)=some v:=by cases op <;> first | exact h | exact absurd rfl h1 | exact absurd rfl c
    split at d
    · rename_i hk
      subst hk;exact kaem ⟨h1,c⟩ d
    · cases d
  case string.string x y=>exact kaet h
  case bool.bool x y=>
    cases bt with
    | false=>cases h
    | true=>
      have f:=e rfl;have g:(Op.equal t (.bool x) (.bool y)).run P w = .ok (x == y) w:=(by unfold Op.equal;rw [show Op.maxDepth=9999+1 from rfl,Op.equalIn,Sem.run_bind,run_underlying f,Result.andThen_ok];rfl);cases op <;> simp only at h <;> first
        | (injection h with h;subst h;simp only [binOp,Sem.run_bind,g,Result.andThen_ok];rfl)
        | cases h
theorem kaje {op:UnOp} {x v:Value} (h:unV op x=some v):(Op.unary op x).run P w = .ok v w:=by
  cases x <;> simp only [unV] at h <;> try cases h
  case int k n=>cases op <;> simp at h <;> (subst h;simp [Op.unary,Op.intArith,Op.intBits])
  case bool b=>cases op <;> simp at h <;> (subst h;simp [Op.unary])
theorem kagr {bt:Bool} {op:BinOp} {x y v:Value} (h:binV bt op x y=some v):v.oneCell'=true:=by
  cases x <;> cases y <;> simp only [binV] at h <;> try cases h
  case int.int k a k' b=>
    cases op <;> simp only [shV,intV] at h <;> (repeat' split at h) <;> first
      | (injection h with h;subst h;rfl)
      | cases h
  case string.string x y=>cases op <;> simp only [strV] at h <;> first | (injection h with h;subst h;rfl) | cases h
  case bool.bool x y=>cases bt <;> cases op <;> first | (injection h with h;subst h;rfl) | cases h
theorem kakq {op:UnOp} {x v:Value} (h:unV op x=some v):v.oneCell'=true:=by cases x <;> cases op <;> simp [unV] at h <;> (subst h;rfl)
theorem kae (w':World) {R:Value->World->Prop} (v:Value) (h:(execOp a.eval o).run P w = .ok (.value v) w') (hr:R v w'):ket P o a w R:=by unfold ket;rw [h];exact hr
theorem kjh (w':World) {R:Value->World->Prop} (h:(execOp a.eval o).run P w = .ok .skip w') (hr:R undef w'):ket P o a w R:=by unfold ket;rw [h];exact hr
theorem RV.here {v:Value} {x:AV} (h:RV ψ K S w v x):RV ψ K (fun b=>S b\/w.heap.size<=b) w v x:=h.mono (fun _ h=>h) fun _ h => .inl h
def kai5:Value->Bool
  | .int ..=>true
  | .string _=>true
  | .bool _=>true
  | _=>false
theorem kwc {op:BinOp} {t:TypeId} {x y:Operand} {u v:Value} (a:kai5 u=true):(eqGuard op t x y u v).run P w = .ok () w:=by unfold eqGuard;cases u <;> cases a <;> cases op <;> simp
theorem kabj {bt:Bool} {op:BinOp} {u v r:Value} (h:binV bt op u v=some r):kai5 u=true:=by cases u <;> cases v <;> first | rfl | cases h
theorem kacs {op:BinOp} {t yt:TypeId} {x y:Operand} {u v r:Value} (bt:Bool) (c:bt=true->P.underlying t=some .bool) (d:o.op = .binOp op t x y yt) (hx:st.eval x = .fz (.atom u)) (hy:st.eval y = .fz (.atom v)) (h:binV bt op u v=some r):NStep P o st (.fz (.atom r)):=by intro ψ S a w ht _;have h1:=Sim.eval_tmps ht x;have b:=Sim.eval_tmps ht y;rw [hx] at h1;rw [hy] at b;refine kae w r ?_ ⟨kaf _, .fz (.atom (kagr h))⟩;simp [execOp,d,h1.atom,b.atom,kafq c h,kwc (kabj h)]
theorem n_un {op:UnOp} {t:TypeId} {x:Operand} {u r:Value} (b:o.op = .unOp op t x) (hx:st.eval x = .fz (.atom u)) (h:unV op u=some r):NStep P o st (.fz (.atom r)):=by intro ψ S a w ht _;have h1:=Sim.eval_tmps ht x;rw [hx] at h1;refine kae w r ?_ ⟨kaf _, .fz (.atom (kakq h))⟩;simp [execOp,b,h1.atom,kaje h]
theorem k1u {x:Operand} (b:o.op = .move x\/o.op = .assign x):NStep P o st (st.eval x):=by intro ψ S a w ht _;refine kae w (a.eval x) ?_ ⟨kaf _,(Sim.eval_tmps ht x).here⟩;rcases b with b | b <;> simp [execOp,b]
theorem kaee {c x y:Operand} {b:Bool} (d:o.op = .pick c x y) (hc:st.eval c = .fz (.atom (.bool b))):NStep P o st (bif b then st.eval x else st.eval y):=by
  intro ψ S a w ht _;have h1:=Sim.eval_tmps ht c;rw [hc] at h1;refine kae w (bif b then a.eval x else a.eval y) ?_ ⟨kaf _,?_⟩
  · cases b <;> simp [execOp,d,h1.atom,asBool]
  · cases b
    · exact (Sim.eval_tmps ht y).here
    · exact (Sim.eval_tmps ht x).here
end Go.Proofs.YtjpkdegjcilndaaGreatDoor
set_option linter.all false
namespace Go.Proofs.YtjpkdegjcilndaaGreatDoor
open Go Go.RowKit
variable [Dr]
def kn5:List AV->Option (List FV)
  | []=>some []
  | .fz x::l=>(kn5 l).map (x::·)
  | _::_=>none
def aggA (xs:List AV):AV:=match kn5 xs with
  | some ys => .fz (.agg ys)
  | none => .agg xs
def tupA (xs:List AV):AV:=match kn5 xs with
  | some ys => .fz (.tup ys)
  | none => .tup xs
def km9 (d:TD) (xs:List AV):Option AV:=bif d.kind.agg then (bif Nat.ble d.size xs.length then some (aggA (xs.take d.size)) else none) else xs.head?
def knl (st:St):AV->Option (List AV)
  | .fz (.fp cs)=>some (cs.map .fz)
  | .ref id n off=>match kaa st.heap id with
    | some (.box _ cells)=>bif Nat.beq n 0 then some (cells.drop off) else none
    | _=>none
  | _=>none
variable {P:Program} {w w':World} {S S':Nat->Prop} {ψ:Env} {K:Nat->Prop} {T:List (TypeId×TD)} {o:Oper} {a:Act} {st:St} {t:TypeId} {d:TD}
theorem TdOk.size (h:TdOk P t d):(sizeOf t).run P w = .ok d.size w:=by obtain ⟨⟨i,z,h1,a,_⟩,_⟩:=h;simp [sizeOf,typeInfo,h1,a]
theorem TdOk.info (h:TdOk P t d):(P.info? t).map (·.size)=some d.size:=by obtain ⟨⟨i,z,h1,a,_⟩,_⟩:=h;simp [h1,a]
theorem TdOk.isAgg (h:TdOk P t d):(isAgg t).run P w = .ok d.kind.agg w:=by obtain ⟨_,e,h1,a⟩:=h;unfold Go.isAgg;rw [Sem.run_bind,run_underlying h1];cases e <;> cases hk:d.kind <;> simp [kg3,hk,TK.agg] at a ⊢
theorem TdOk.zero (h:TdOk P t d):∃ z,(zeroValue t).run P w = .ok z w/\z.cells.toList=d.zero:=by obtain ⟨⟨i,z,h1,c,e,a,b⟩,_⟩:=h;exact ⟨z,by simp [zeroValue,typeInfo,h1,a],b⟩
theorem TdOk.strct {fs:List (TypeId×Nat)} (h:TdOk P t d) (hk:d.kind = .st fs):∃ gs:Array Field,(∀ w,(underlying t).run P w = .ok (.struct gs) w)/\gs.toList.map (fun f=>(f.type,f.offset))=fs:=by obtain ⟨_,e,h1,a⟩:=h;rw [hk] at a;cases e <;> simp [kg3] at a;exact ⟨_,fun w=>run_underlying h1 w,a⟩
theorem TdOk.arr {n e:Nat} (h:TdOk P t d) (hk:d.kind = .arr n e):P.underlying t=some (.array n e):=by obtain ⟨_,e',h1,a⟩:=h;rw [hk] at a;cases e' <;> simp [kg3] at a;rw [h1,a.1,a.2]
theorem TdOk.slice {e:Nat} (h:TdOk P t d) (hk:d.kind = .slice e):P.underlying t=some (.slice e):=by obtain ⟨_,e',h1,a⟩:=h;rw [hk] at a;cases e' <;> simp [kg3] at a;rw [h1,a]
theorem TdOk.str (h:TdOk P t d) (hk:d.kind = .str):P.underlying t=some .string:=by obtain ⟨_,e',h1,a⟩:=h;rw [hk] at a;cases e' <;> simp [kg3] at a;rw [h1]
theorem knt:∀ {xs:List AV} {ys:List FV},kn5 xs=some ys->xs=ys.map .fz
  | [],ys,h=>by simp [kn5] at h;subst h;rfl
  | .fz x::l,ys,h=>by simp only [kn5,qt] at h;obtain ⟨zs,a,rfl⟩:=h;rw [knt a];rfl
theorem RV.aggA {cs:Array Value} {xs:List AV} (h:cs.size=xs.length) (h1:∀ x∈xs,x.single=true) (hr:∀ (i:Nat) (v:Value) (x:AV),cs[i]?=some v->xs[i]?=some x->RV ψ K S w v x):RV ψ K S w (.agg cs) (aggA xs):=by
  unfold Go.Proofs.YtjpkdegjcilndaaGreatDoor.aggA;cases hy:kn5 xs with
  | none=>exact .agg h h1 hr
  | some ys=>
    have:=knt hy;subst this;exact .fz (.agg (by simpa using h) (fun x hx=>h1 (.fz x) (by simp [hx])) fun i v x hv hx=>(hr i v (.fz x) hv (by simp [hx])).inv)
theorem RV.tupA {cs:Array Value} {xs:List AV} (h:cs.size=xs.length) (hr:∀ (i:Nat) (v:Value) (x:AV),cs[i]?=some v->xs[i]?=some x->RV ψ K S w v x):RV ψ K S w (.tuple cs) (tupA xs):=by
  unfold Go.Proofs.YtjpkdegjcilndaaGreatDoor.tupA;cases hy:kn5 xs with
  | none=>exact .tup h hr
  | some ys=>
    have:=knt hy;subst this;exact .fz (.tup (by simpa using h) fun i v x hv hx=>(hr i v (.fz x) hv (by simp [hx])).inv)
def kabs (ψ:Env) (K S:Nat->Prop) (w:World) (b o:Nat) (xs:List AV):Prop:=
  ∃ cs:List Value,At w b o cs/\cs.length=xs.length/\(∀ x∈xs,x.single=true)/\∀ (i:Nat) (v:Value) (x:AV),cs[i]?=some v->xs[i]?=some x->RV ψ K S w v x
theorem kvf {v:Value} {x:AV} {xs:List AV} (hv:RV ψ (·∈st.ids) S w v x) (f:∀ id o,kaa st.heap id=some o->ObR ψ (·∈st.ids) S w id o) (h:knl st x=some xs):
    ∃ b o,v = .pointer (some ⟨b,o,none⟩)/\kabs ψ (·∈st.ids) S w b o xs:=by
  cases x with
  | fz x=>
    cases x with
    | fp cs=>
      simp only [knl,qc] at h;subst h;cases hv with
      | fz hv=>
        cases hv with
        | @fp b o _ vs hS ha hl h0 h1 hr=>
          refine ⟨b,o,rfl,vs,ha,by simpa using hl,fun x hx=>?_,fun i v x hv hx=>?_⟩
          · simp only [qas] at hx
            obtain ⟨y,hy,rfl⟩:=hx;exact h1 y hy
          · simp only [qq,qt] at hx
            obtain ⟨y,hy,rfl⟩:=hx;exact .fz (hr i v y hv hy)
    | _=>cases h
  | ref id n off=>
    simp only [knl] at h;split at h
    · rename_i e cells g
      cases hn:Nat.beq n 0 with
      | false=>rw [hn] at h;cases h
      | true=>
        rw [hn] at h;simp only [qe,qc] at h;subst h;obtain rfl:=qk hn;obtain ⟨h0,b,cs,h1,k,l,m,p⟩:=f id _ g;cases hv with
        | ref hK q r c=>
          obtain ⟨b',a,rfl⟩:=c h0.symm;rw [h1] at a;simp only [kak,qc] at a;subst a;refine ⟨b,off,rfl,cs.toList.drop off,fun j u d=>?_,by simp [l],fun x hx=>m x (qbq hx),fun i v x hv hx=>?_⟩
          · rw [qao] at d
            simp only [World.cell?,k];simpa using d
          · rw [qao] at hv hx
            exact p _ v x (by simpa using hv) hx
    · cases h
  | _=>cases h
theorem kamx {x:Operand} {xs:List AV} {c:AV} (n:o.op = .load t x) (hd:TdOk P t d) (hx:knl st (st.eval x)=some xs) (hc:km9 d xs=some c):NStep P o st c:=by
  intro ψ S a w ht q;obtain ⟨b,off,hv,cs,h,hl,h1,hr⟩:=kvf (Sim.eval_tmps ht x) q hx;unfold km9 at hc;cases hk:d.kind.agg with
  | false=>
    rw [hk] at hc;simp only [qd] at hc;cases xs with
    | nil=>cases hc
    | cons y ys=>
      simp only [List.head?_cons,qc] at hc;subst hc;have k:cs[0]?=some (cs[0]'(by simp at hl;omega)):=qb _;have f:w.cell? ⟨b,off,none⟩=some (cs[0]'(by simp at hl;omega)):=(by simpa using h 0 _ k);refine kae w (cs[0]'(by simp at hl;omega)) ?_ ⟨kaf _,(hr 0 _ y k rfl).here⟩;simp [execOp,n,hv,Instr.loadAt,Instr.sureAddr,loadVar,hd.isAgg,hk,f]
  | true=>
    rw [hk] at hc;simp only [qe] at hc;cases g:Nat.ble d.size xs.length with
    | false=>rw [g] at hc;cases hc
    | true=>
      rw [g] at hc;simp only [qe,qc] at hc;subst hc;have p:=qs g;have l:(cs.take d.size).length=d.size:=(by rw [qaw];omega);have e:=run_loadCells_list (P:=P) w ⟨b,off,none⟩ (cs.take d.size) fun j v m=>by
        rw [qab] at m;split at m
        · have:=h j v m
          simp only [Addr.add];split
          · rename_i h0;subst h0;simpa using this
          · exact this
        · cases m
      rw [l] at e;refine kae w (.agg (cs.take d.size).toArray) ?_ ⟨kaf _,(RV.aggA (by simp [hl]) (fun x hx=>h1 x (qbr hx)) fun i v x hv hx=>?_).here⟩
      · simp [execOp,n,hv,Instr.loadAt,Instr.sureAddr,loadVar,hd.isAgg,hk,hd.size,e]
      · simp only [List.getElem?_toArray] at hv
        rw [qab] at hv hx;split at hv
        · rename_i hi;rw [qo hi] at hx;exact hr i v x hv hx
        · cases hv
def kpr (st:St) (off:Nat) (x:AV):Option AV:=match x with
  | .fz (.fp cs)=>match cs.drop off with
    | []=>none
    | y::ys=>some (.fz (.fp (y::ys)))
  | .ref id n o=>match kaa st.heap id with
    | some (.box _ cells)=>bif Nat.beq n 0 then some (.ref id n (o+off)) else none
    | _=>none
  | _=>none
theorem kb6 (b o n:Nat):(⟨b,o,none⟩:Addr).add n=⟨b,o+n,none⟩:=by
  unfold Addr.add;split
  · rename_i h;subst h;rfl
  · rfl
theorem kss {off:Nat} {v:Value} {x c:AV} (hv:RV ψ (·∈st.ids) S w v x) (m:∀ id o,kaa st.heap id=some o->ObR ψ (·∈st.ids) S w id o) (h:kpr st off x=some c):
    ∃ b o,v = .pointer (some ⟨b,o,none⟩)/\RV ψ (·∈st.ids) S w (.pointer (some ⟨b,o+off,none⟩)) c:=by
  cases x with
  | fz x=>
    cases x with
    | fp cs=>
      simp only [kpr] at h;cases hv with
      | fz hv=>
        cases hv with
        | @fp b o _ vs hS ha hl h0 h1 hr=>
          split at h
          · cases h
          · rename_i y ys hd
            injection h with h;subst h;refine ⟨b,o,rfl, .fz ?_⟩;rw [<- hd];have k:off<cs.length:=by
              rcases qbb off cs.length with a | a
              · exact a
              · rw [qbe a] at hd;cases hd
            refine .fp (vs.drop off) hS (fun j u l=>?_) (by simp [hl]) (by rw [qa9];omega) (fun x hx=>h1 x (qbq hx)) fun i v x hv hx=>?_
            · rw [qao] at l
              have:=ha _ u l
              rwa [<- Nat.add_assoc] at this
            · rw [qao] at hv hx
              exact hr _ v x hv hx
    | _=>cases h
  | ref id n off'=>
    simp only [kpr] at h;split at h
    · rename_i e cells p
      cases hn:Nat.beq n 0 with
      | false=>rw [hn] at h;cases h
      | true=>
        rw [hn] at h;simp only [qe,qc] at h;subst h;obtain rfl:=qk hn;obtain ⟨h0,b,cs,h1,r,s,t,z⟩:=m id _ p;cases hv with
        | ref hK d q f=>
          obtain ⟨b',g,rfl⟩:=f h0.symm;exact ⟨b',off',rfl, .ref hK d rfl fun _=>⟨b',g,rfl⟩⟩
    · cases h
  | _=>cases h
theorem kajy {s:TypeId} {x:Operand} {f:Nat} {fs:List (TypeId×Nat)} {ft:TypeId} {off:Nat} {df:TD} {c:AV} (l:o.op = .fieldAddr s x f) (hd:TdOk P s d) (hk:d.kind = .st fs) (k:fs[f]?=some (ft,off)) (h:TdOk P ft df) (m:df.size≠0)
    (hc:kpr st off (st.eval x)=some c):NStep P o st c:=by
  intro ψ S a w ht n;obtain ⟨b,off',hv,hr⟩:=kss (Sim.eval_tmps ht x) n hc;obtain ⟨gs,p,i⟩:=hd.strct hk;have e:∃ g:Field,gs[f]?=some g/\g.type=ft/\g.offset=off:=by rw [<- i,qq,qt] at k;obtain ⟨g,e,j⟩:=k;simp only [qv] at j;exact ⟨g,by simpa using e,j.1,j.2⟩
  obtain ⟨g,e,rfl,rfl⟩:=e;refine kae w _ ?_ ⟨kaf _,hr.here⟩;simp [execOp,l,hv,Instr.fieldAt,p,e,Instr.sureAddr,fieldPlace,h.size,m,kb6]
theorem k4k {x:Operand} {i:Nat} {c:AV} (d:o.op = .extract x i) (hc:(match st.eval x with | .fz (.tup xs)=>(xs[i]?).map .fz | .tup xs=>xs[i]? | _=>none)=some c):NStep P o st c:=by
  intro ψ S a w ht g;have hv:=Sim.eval_tmps ht x;have key:∃ (cs:Array Value) (v:Value),a.eval x = .tuple cs/\cs[i]?=some v/\RV ψ (·∈st.ids) S w v c:=by
    generalize st.eval x=y at hv hc;generalize a.eval x=u at hv;split at hc
    · rename_i xs
      have hv:=hv.inv;cases hv with
      | @tup cs _ hl hr=>
        simp only [qt] at hc;obtain ⟨z,b,rfl⟩:=hc;have hi:i<cs.size:=(by rw [hl];exact (qg.1 b).1);exact ⟨cs,cs[i],rfl,by simp [hi], .fz (hr i _ z (by simp [hi]) b)⟩
    · rename_i xs
      cases hv with
      | @tup cs _ hl hr=>
        have hi:i<cs.size:=(by rw [hl];exact (qg.1 hc).1);exact ⟨cs,cs[i],rfl,by simp [hi],hr i _ c (by simp [hi]) hc⟩
    · cases hc
  obtain ⟨cs,v,h1,e,f⟩:=key;refine kae w v ?_ ⟨kaf _,f.here⟩;simp [execOp,d,h1,Instr.extract,e]
theorem kabr {x:Operand} {c:AV} (d:o.op = .nilCheck x) (hc:kpr st 0 (st.eval x)=some c):NStep P o st c:=by intro ψ S a w ht e;obtain ⟨b,off',hv,hr⟩:=kss (Sim.eval_tmps ht x) e hc;refine kae w _ ?_ ⟨kaf _,hr.here⟩;simp [execOp,d,hv]
end Go.Proofs.YtjpkdegjcilndaaGreatDoor
set_option linter.all false
namespace Go.Proofs.YtjpkdegjcilndaaGreatDoor
open Go Go.RowKit
variable [Dr]
def kc1 {α:Type} (cells:List α) (off:Nat) (xs:List α):List α:=cells.take off++(xs++cells.drop (off+xs.length))
def ks1 (place:Nat->Option (Nat×Nat)) (cells:List AV):List (Nat×AV)->Option (List AV)
  | []=>some cells
  | (i,x)::rest=>match place i with
    | none=>none
    | some (off,size)=>bif Nat.beq x.cells.length size && (Nat.ble (off+size) cells.length && x.cells.all AV.single) then ks1 place (kc1 cells off x.cells) rest else none
def ksj (d:TD):Option (List AV):=bif d.zero.all (·.oneCell') then some (d.zero.map fun v => .fz (.atom v)) else none
variable {P:Program} {w w':World} {S S':Nat->Prop} {ψ:Env} {K:Nat->Prop} {T:List (TypeId×TD)} {o:Oper} {a:Act} {st:St} {t:TypeId} {d:TD}
def PW (ψ:Env) (K S:Nat->Prop) (w:World) (cs:Array Value) (xs:List AV):Prop:=
  cs.size=xs.length/\∀ (i:Nat) (v:Value) (x:AV),cs[i]?=some v->xs[i]?=some x->RV ψ K S w v x
theorem kmr {α:Type} (cells:List α) (off:Nat) (xs:List α) (h:off+xs.length<=cells.length) (k:Nat):(kc1 cells off xs)[k]?=if off<=k/\k<off+xs.length then xs[k - off]? else cells[k]?:=by
  unfold kc1;by_cases h1:k<off
  · rw [qad (by rw [qaw];omega),qab,qo h1,qi (by omega)]
  · rw [qae (by rw [qaw];omega),qaw,Nat.min_eq_left (by omega)]
    by_cases a:k<off+xs.length
    · rw [qad (by omega),qo (by omega)]
    · rw [qae (by omega),qao,qi (by omega)]
      congr 1;omega
theorem kj9 {α:Type} (cells:List α) (off:Nat) (xs:List α) (h:off+xs.length<=cells.length):(kc1 cells off xs).length=cells.length:=by unfold kc1;simp only [qah,qaw,qa9];omega
theorem k3b (place:Nat->Option (Nat×Nat)):∀ (parts:List (Nat×Value)) (as_:List (Nat×AV)) (cells:Array Value) (xs rs:List AV),PW ψ K S w cells xs->(∀ x∈xs,x.single=true)->parts.length=as_.length ->
    (∀ (i:Nat) (p:Nat×Value) (q:Nat×AV),parts[i]?=some p->as_[i]?=some q->p.1=q.1/\RV ψ K S w p.2 q.2)->ks1 place xs as_=some rs ->
    ∃ r,Instr.fill place cells parts=some r/\PW ψ K S w r rs/\∀ x∈rs,x.single=true
  | [],[],cells,xs,rs,hp,h1,_,_,a=>by simp only [ks1,qc] at a;subst a;exact ⟨cells,rfl,hp,h1⟩
  | (i,v)::parts,(j,x)::as_,cells,xs,rs,hp,h1,hl,hr,a=>by
    obtain ⟨e,hx⟩:=hr 0 _ _ rfl rfl;simp only at e;subst e;simp only [ks1] at a;cases b:place i with
    | none=>rw [b] at a;cases a
    | some os=>
      obtain ⟨off,size⟩:=os;rw [b] at a;simp only at a;cases hc:(Nat.beq x.cells.length size && (Nat.ble (off+size) xs.length && x.cells.all AV.single)) with
      | false=>rw [hc] at a;cases a
      | true=>
        rw [hc] at a;simp only [qe] at a;simp only [qp] at hc;obtain ⟨c,hc2,g⟩:=hc;have c:=qk c;have hc2:=qs hc2;have hs:∀ y∈x.cells,y.single=true:=qr.1 g;obtain ⟨e1,e2,e3⟩:=RV.cells hx hs;simp only at e1 e2 e3;obtain ⟨g1,g2⟩:=Great.foldl_set off v.cells.toList 0 cells;have f:off+x.cells.length<=xs.length:=(by omega);have l:PW ψ K S w ((v.cells.toList.zipIdx 0).foldl (fun cs (x:Value×Nat)=>cs.setIfInBounds (off+x.2) x.1) cells) (kc1 xs off x.cells):=by
          refine ⟨by rw [g1,kj9 _ _ _ f];exact hp.1,fun k u y d hy=>?_⟩;rw [g2 k] at d;rw [kmr _ _ _ f] at hy;simp only [Nat.add_zero,qal,e1] at d;by_cases hk:off<=k/\k<off+x.cells.length
          · rw [qo ⟨hk.1,hk.2,by rw [hp.1];omega⟩] at d
            rw [qo hk] at hy;exact e2 _ u y (by simpa using d) hy
          · rw [qi (fun h=>hk ⟨h.1,h.2.1⟩)] at d
            rw [qi hk] at hy;exact hp.2 k u y d hy
        have m:∀ y∈kc1 xs off x.cells,y.single=true:=by
          intro y hy;unfold kc1 at hy;simp only [qau] at hy;rcases hy with hy | hy | hy
          · exact h1 y (qbr hy)
          · exact hs y hy
          · exact h1 y (qbq hy)
        obtain ⟨r,o,s,t⟩:=k3b place parts as_ _ _ rs l m (by simpa using hl) (fun n p q hp z=>hr (n+1) p q (by simpa using hp) (by simpa using z)) a;refine ⟨r,?_,s,t⟩;unfold Instr.fill;rw [b];simp only;rw [qi (by simp [e1,c,hp.1];omega)];rw [<- o];congr 1;rw [<- Array.foldl_toList,Array.toList_zipIdx]
theorem k8j {α β:Type} {f:α->Sem β} {g:α->β} (w:World):∀ (l:List α),(∀ x∈l,(f x).run P w = .ok (g x) w)->(l.mapM f).run P w = .ok (l.map g) w
  | [],_=>by simp
  | x::l,h=>by rw [List.mapM_cons];have h1:=h x (qu ..);have a:=k8j w l fun y hy=>h y (qh _ hy);simp [h1,a]
theorem k26 (w:World) (ψ:Env) {z:Value} {xs:List AV} (c:z.cells.toList=d.zero) (h:ksj d=some xs):PW ψ K S w z.cells xs/\∀ x∈xs,x.single=true:=by
  unfold ksj at h;cases e:d.zero.all (·.oneCell') with
  | false=>rw [e] at h;cases h
  | true=>
    rw [e] at h;simp only [qe,qc] at h;subst h;have a:=qr.1 e;refine ⟨⟨by rw [qaa,<- c];simp,fun i v x hv hx=>?_⟩,fun x hx=>?_⟩
    · simp only [qq,qt] at hx
      obtain ⟨u,b,rfl⟩:=hx;rw [<- c,qat,hv] at b;injection b with b;subst b;exact .fz (.atom (a v (by rw [<- c];exact Array.mem_toList_iff.2 (Array.mem_of_getElem? hv))))
    · simp only [qas] at hx
      obtain ⟨v,hv,rfl⟩:=hx;exact a v hv
def krf (T:List (TypeId×TD)):List (TypeId×Nat)->Option (List (Nat×Nat))
  | []=>some []
  | (ft,off)::l=>match kad T ft,krf T l with
    | some d,some r=>some ((off,d.size)::r)
    | _,_=>none
theorem k1z (b:TOk P T):∀ {fs:List (TypeId×Nat)} {ps:List (Nat×Nat)},krf T fs=some ps->ps=fs.map (fun f=>(f.2,P.cellsOf f.1))/\∀ f∈fs,∀ w,(sizeOf f.1).run P w = .ok (P.cellsOf f.1) w
  | [],ps,h=>by simp [krf] at h;subst h;exact ⟨rfl,fun f a=>by cases a⟩
  | (ft,off)::l,ps,h=>by
    simp only [krf] at h;split at h
    · rename_i d r hd hr
      injection h with h;subst h;obtain ⟨h1,c⟩:=k1z b hr;have hs:P.cellsOf ft=d.size:=(by unfold Program.cellsOf;rw [(b.get hd).info];rfl);refine ⟨by simp [h1,hs],fun f a=>?_⟩;rcases qac.1 a with rfl | a
      · intro w;rw [(b.get hd).size];simp [hs]
      · exact c f a
    · cases h
def kdf (st:St) (ps:Array (Nat×Operand)):List (Nat×AV):=ps.toList.map fun p=>(p.1,st.eval p.2)
theorem kob {ids:List Nat} (h:∀ t,RV ψ (·∈ids) S w (a.tmps.getD t undef) (st.get t)) (ps:Array (Nat×Operand)):
    (ps.map fun (i,x)=>(i,a.eval x)).toList.length=(kdf st ps).length/\∀ (i:Nat) (p:Nat×Value) (q:Nat×AV),(ps.map fun (i,x)=>(i,a.eval x)).toList[i]?=some p->(kdf st ps)[i]?=some q->p.1=q.1/\RV ψ (·∈ids) S w p.2 q.2:=by
  refine ⟨by simp [kdf],fun i p q hp b=>?_⟩;unfold kdf at b;simp only [Array.toList_map,qq,qt] at hp b;obtain ⟨x,hx,rfl⟩:=hp;obtain ⟨y,hy,rfl⟩:=b;rw [hx] at hy;injection hy with hy;subst hy;exact ⟨rfl,Sim.eval_tmps h x.2⟩
def k7x (T:List (TypeId×TD)) (st:St) (t:TypeId) (parts:Array (Nat×Operand)):Option AV:=match kad T t with
  | some d=>match d.kind,ksj d with
    | .st fs,some zs=>match krf T fs with
      | some ps=>(ks1 (fun i:Nat=>ps[i]?) zs (kdf st parts)).map aggA
      | none=>none
    | .arr _ e,some zs=>match kad T e with
      | some de=>(ks1 (fun i:Nat=>some (i*de.size,de.size)) zs (kdf st parts)).map aggA
      | none=>none
    | _,_=>none
  | none=>none
theorem k9o {parts:Array (Nat×Operand)} {c:AV} (u:TOk P T) (F:o.op = .build t parts) (hc:k7x T st t parts=some c):NStep P o st c:=by
  intro ψ S a w ht H;unfold k7x at hc;split at hc
  · rename_i d hd
    have hd:=u.get hd;split at hc
    · rename_i fs zs hk y
      split at hc
      · rename_i ps A
        simp only [qt] at hc;obtain ⟨rs,k,rfl⟩:=hc;obtain ⟨gs,B,s⟩:=hd.strct hk;obtain ⟨C,D⟩:=k1z u A;obtain ⟨z,l,m⟩:=hd.zero (w:=w);obtain ⟨e1,e2⟩:=kob ht parts;obtain ⟨z1,z2⟩:=k26 (S:=S) (K:=(·∈st.ids)) w ψ m y;obtain ⟨r,b,h,p⟩:=k3b (fun i:Nat=>ps[i]?) _ _ _ _ rs z1 z2 e1 e2 k;refine kae w (.agg r) ?_ ⟨kaf _,(RV.aggA h.1 p h.2).here⟩;have hm:(Array.mapM (fun f:Field=>Prod.mk f.offset <$> sizeOf f.type) gs).run P w = .ok ps.toArray w:=(by rw [Array.mapM_eq_mapM_toList];have:=k8j (P:=P) (f:=fun f:Field=>Prod.mk f.offset <$> sizeOf f.type) (g:=fun f=>(f.offset,P.cellsOf f.type)) w gs.toList fun f G=>(by have:=D (f.type,f.offset) (by rw [<- s];exact qas.2 ⟨f,G,rfl⟩) w;simp [this]);simp only [Sem.run_map,this];rw [C,<- s];simp);have E:(fun i:Nat=>ps.toArray[i]?)=fun i:Nat=>ps[i]?:=(by funext i;simp);have j:(parts.map fun (i,x)=>(i,a.eval x)).toList=List.map (fun x=>(x.fst,a.eval x.snd)) parts.toList:=(by simp);rw [j] at b;simp [execOp,F,Instr.build,l,B,hm,E,b]
      · cases hc
    · rename_i n e zs hk y
      split at hc
      · rename_i de q
        have q:=u.get q;simp only [qt] at hc;obtain ⟨rs,k,rfl⟩:=hc;have B:=run_underlying (hd.arr hk) w;obtain ⟨z,l,m⟩:=hd.zero (w:=w);obtain ⟨e1,e2⟩:=kob ht parts;obtain ⟨z1,z2⟩:=k26 (S:=S) (K:=(·∈st.ids)) w ψ m y;obtain ⟨r,b,h,p⟩:=k3b (fun i:Nat=>some (i*de.size,de.size)) _ _ _ _ rs z1 z2 e1 e2 k;refine kae w (.agg r) ?_ ⟨kaf _,(RV.aggA h.1 p h.2).here⟩;have j:(parts.map fun (i,x)=>(i,a.eval x)).toList=List.map (fun x=>(x.fst,a.eval x.snd)) parts.toList:=(by simp);rw [j] at b;simp [execOp,F,Instr.build,l,B,q.size,b]
      · cases hc
    · cases hc
  · cases hc
def arrX (T:List (TypeId×TD)) (st:St) (t:TypeId) (x y:Operand):Option AV:=match kad T t with
  | some d=>match d.kind with
    | .arr n e=>match kad T e,st.eval y with
      | some de, .fz (.atom (.int _ i))=>bif decide (0<=i) && decide (i<n) then kpr st (i.toNat*de.size) (st.eval x) else none
      | _,_=>none
    | _=>none
  | none=>none
theorem n_arr {x y:Operand} {c:AV} (l:TOk P T) (m:o.op = .indexAddr t x y) (hc:arrX T st t x y=some c):NStep P o st c:=by
  intro ψ S a w ht p;unfold arrX at hc;split at hc
  · rename_i d hd
    split at hc
    · rename_i n e hk
      split at hc
      · rename_i de k i f hy
        cases g:decide (0<=i) && decide (i<(n:Int)) with
        | false=>rw [g] at hc;cases hc
        | true=>
          rw [g] at hc;simp only [qe] at hc;simp only [qp,qbx] at g;have hd:=l.get hd;have f:=l.get f;obtain ⟨b,off',hv,hr⟩:=kss (Sim.eval_tmps ht x) p hc;have h:=Sim.eval_tmps ht y;rw [hy] at h;have j:=h.atom;refine kae w _ ?_ ⟨kaf _,hr.here⟩;simp [execOp,m,hv,j,Instr.indexAt,asIntOf,run_underlying (hd.arr hk),Instr.sureAddr,g.1,g.2,f.size,kb6]
      · cases hc
    · cases hc
  · cases hc
end Go.Proofs.YtjpkdegjcilndaaGreatDoor
set_option linter.all false
namespace Go.Proofs.YtjpkdegjcilndaaGreatDoor
open Go Go.RowKit
variable [Dr]
def koa (size:Nat):Nat->List (Nat×AV)->Option (List FV)
  | _,[]=>some []
  | i,(j, .fz x)::l=>bif Nat.beq j i && (Nat.beq x.cells.length size && x.cells.all FV.single) then (koa size (i+1) l).map (x::·) else none
  | _,_::_=>none
def kn6:AV->Option (List FV)
  | .fz (.lst _ _ xs)=>some xs
  | .lim _ _ xs=>some xs
  | _=>none
def lenOf:AV->Option Nat
  | .fz (.lst _ n _)=>some n
  | .lim _ n _=>some n
  | .fz (.atom (.slice none 0 0))=>some 0
  | _=>none
def nilV:Value := .slice none 0 0
variable {P:Program} {w w':World} {S S':Nat->Prop} {ψ:Env} {K:Nat->Prop} {T:List (TypeId×TD)} {o:Oper} {a:Act} {st:St} {t:TypeId} {d:TD}
theorem RF.lst_inv {v:Value} {size n:Nat} {xs:List FV} (h:RF S w v (.lst size n xs)):∃ (A:Option Addr) (cap:Nat) (css:Nat->List Value),v = .slice A n cap/\n=xs.length/\n<=cap/\cap<=9223372036854775807/\0<size /\
    (∀ (i:Nat) (x:FV),xs[i]?=some x->∃ b o,A=some ⟨b,o,none⟩/\S b/\At w b (o+i*size) (css i)) /\
    (∀ (i:Nat) (x:FV),xs[i]?=some x->(css i).length=size/\x.cells.length=size/\∀ y∈x.cells,y.single=true) /\
    (∀ (i:Nat) (x:FV) (j:Nat) (v:Value) (y:FV),xs[i]?=some x->(css i)[j]?=some v->x.cells[j]?=some y->RF S w v y):=by
  cases h with
  | lst css hn hc hm hs ha hl hr=>exact ⟨_,_,css,rfl,hn,hc,hm,hs,ha,hl,hr⟩
theorem kw5 {v:Value} {x:AV} {xs:List FV} (h:RV ψ K S w v x) (hx:kn6 x=some xs):∃ A cap size n,n=xs.length/\v = .slice A n cap/\RF S w v (.lst size n xs):=by
  cases x with
  | fz x=>
    cases x with
    | lst size n ys=>
      simp only [kn6,qc] at hx;subst hx;have h:=h.inv;have a:=h;cases h with
      | lst css hn=>exact ⟨_,_,_,n,hn,rfl,a⟩
    | _=>cases hx
  | lim size n ys=>
    simp only [kn6,qc] at hx;subst hx;cases h with
    | lim h=>
      have a:=h;cases h with
      | lst css hn=>exact ⟨_,_,_,n,hn,rfl,a⟩
  | _=>cases hx
theorem kagl {v:Value} {x:AV} {n:Nat} (h:RV ψ K S w v x) (hx:lenOf x=some n):∃ A cap,v = .slice A n cap:=by
  unfold lenOf at hx;split at hx
  · injection hx with hx
    subst hx;have h:=h.inv;cases h with
    | lst css hn=>exact ⟨_,_,rfl⟩
  · injection hx with hx
    subst hx;cases h with
    | lim h=>exact ⟨_,_,rfl⟩
  · injection hx with hx
    subst hx;rw [h.atom];exact ⟨_,_,rfl⟩
  · cases hx
theorem k19 {x:Operand} {n:Nat} {e:TypeId} (b:o.op = .call { callee := .builtin .len,args:=#[x],argTypes:=#[t] }) (hd:TdOk P t d) (hk:d.kind = .slice e) (hx:lenOf (st.eval x)=some n):NStep P o st (.fz (.atom (.int .i64 n))):=by intro ψ S a w ht c;obtain ⟨A,cap,hv⟩:=kagl (Sim.eval_tmps ht x) hx;refine kae w (.int .i64 n) ?_ ⟨kaf _, .fz (.atom rfl)⟩;simp [execOp,b,resolve,invoke,builtin,Builtin.len_,run_underlying (hd.slice hk),hv,goInt]
theorem k4q {x:Operand} {s:BA} (b:o.op = .call { callee := .builtin .len,args:=#[x],argTypes:=#[t] }) (hd:TdOk P t d) (hk:d.kind = .str) (hx:st.eval x = .fz (.atom (.string s))):NStep P o st (.fz (.atom (.int .i64 s.size))):=by intro ψ S a w ht c;have h1:=Sim.eval_tmps ht x;rw [hx] at h1;refine kae w (.int .i64 s.size) ?_ ⟨kaf _, .fz (.atom rfl)⟩;simp [execOp,b,resolve,invoke,builtin,Builtin.len_,run_underlying (hd.str hk),h1.atom,goInt]
theorem k98 {x y:Operand} {xs:List FV} {e:TypeId} {de:TD} {k:IntKind} {i:Int} {z:FV} {cs:List FV} (p:o.op = .indexAddr t x y) (hd:TdOk P t d) (hk:d.kind = .slice e) (f:TdOk P e de) (hx:kn6 (st.eval x)=some xs)
    (g:∀ z∈xs,z.cells.length=de.size) (hy:st.eval y = .fz (.atom (.int k i))) (h0:0<=i) (hi:xs[i.toNat]?=some z) (hc:z.cells=cs):NStep P o st (.fz (.fp cs)):=by
  subst hc;intro ψ S a w ht B;obtain ⟨A,cap,size,n,q,hv,r⟩:=kw5 (Sim.eval_tmps ht x) hx;have h1:=Sim.eval_tmps ht y;rw [hy] at h1;have s:i.toNat<xs.length:=(qg.1 hi).1;obtain ⟨A',cap',css,h,u,hc,hm,hs,ha,hl,hr⟩:=r.lst_inv;obtain ⟨b,off,rfl,hS,l⟩:=ha _ _ hi;obtain ⟨l1,l2,l3⟩:=hl _ _ hi;have m:size=de.size:=by rw [<- g z (qn hi),l2]
  subst m;refine kae w (.pointer (some ⟨b,off+i.toNat*de.size,none⟩)) ?_ ⟨kaf _,(RV.fz (.fp (css i.toNat) hS l (by rw [l1,l2]) (by omega) l3 fun j v y hv hy=>hr _ _ j v y hi hv hy)).here⟩;have c:i<(n:Int):=by omega
  simp [execOp,p,Instr.indexAt,h1.atom,asIntOf,run_underlying (hd.slice hk),h,h0,c,f.size,kb6]
theorem kaew {x y:Operand} {s:BA} {k:IntKind} {i:Int} {c:UInt8} (e:o.op = .index t x y) (hd:TdOk P t d) (hk:d.kind = .str) (hx:st.eval x = .fz (.atom (.string s))) (hy:st.eval y = .fz (.atom (.int k i))) (h0:0<=i) (hi:s[i.toNat]?=some c):
    NStep P o st (.fz (.atom (.int .u8 c.toNat))):=by
  intro ψ S a w ht f;have h1:=Sim.eval_tmps ht x;rw [hx] at h1;have b:=Sim.eval_tmps ht y;rw [hy] at b;refine kae w (.int .u8 c.toNat) ?_ ⟨kaf _, .fz (.atom rfl)⟩;simp [execOp,e,Instr.index,h1.atom,b.atom,asIntOf,run_underlying (hd.str hk),h0,hi]
theorem kahq {x y:Operand} {yt:TypeId} {s u:BA} (c:o.op = .binOp .add t x y yt) (hx:st.eval x = .fz (.atom (.string s))) (hy:st.eval y = .fz (.atom (.string u))) (hl:s.size+u.size<=9223372036854775807):
    NStep P o st (.fz (.atom (.string (s++u)))):=by
  intro ψ S a w ht e;have h1:=Sim.eval_tmps ht x;rw [hx] at h1;have b:=Sim.eval_tmps ht y;rw [hy] at b;refine kae w (.string (s++u)) ?_ ⟨kaf _, .fz (.atom rfl)⟩;have hm:IntKind.i64.max=9223372036854775807:=by decide
  have:¬ (((s.size+u.size:Nat):Int) > IntKind.i64.max):=by rw [hm];omega
  have d:(binOp .add t (.string s) (.string u)).run P w = .ok (.string (s++u)) w:=by show (Op.stringOp .add s u).run P w=_;unfold Op.stringOp;simp only [qi this];rfl
  simp [execOp,c,h1.atom,b.atom,d,kwc (P:=P) (w:=w) (op := .add) (t:=t) (x:=x) (y:=y) (u := .string s) (v := .string u) rfl]
theorem kal0 {sr:TypeId} {x:Operand} {k k':IntKind} {n:Int} (ds:TD) (b:o.op = .convert sr t x) (hs:∃ e,P.underlying sr=some e) (hd:P.underlying t=some (.int k)) (hx:st.eval x = .fz (.atom (.int k' n))):NStep P o st (.fz (.atom (.int k (k.wrap n)))):=by intro ψ S a w ht d;obtain ⟨e,c⟩:=hs;have h1:=Sim.eval_tmps ht x;rw [hx] at h1;refine kae w (.int k (k.wrap n)) ?_ ⟨kaf _, .fz (.atom rfl)⟩;cases e <;> simp [execOp,b,h1.atom,convert,run_underlying c,run_underlying hd,Conv.intToInt]
theorem kafm {f:FuncId} {cap:Array Operand} (c:o.op = .makeFunc (.func f) #[] cap):NStep P o st (.fn f (cap.toList.map st.eval)):=by
  intro ψ S a w ht d;refine kae w (.func (.func f) #[] (cap.map a.eval)) ?_ ⟨kaf _,(RV.fn (by simp) fun i v x hv hx=>?_).here⟩
  · simp [execOp,c,Instr.makeFunc]
  · simp only [Array.getElem?_map,qt,qq,qat] at hv hx
    obtain ⟨y,hy,rfl⟩:=hv;obtain ⟨z,b,rfl⟩:=hx;rw [hy] at b;injection b with b;subst b;exact Sim.eval_tmps ht y
theorem kaid {f:FuncId} {fst:Array Operand} (c:o.op = .makeFunc (.func f) fst #[]):NStep P o st (.mth f (fst.toList.map st.eval)):=by
  intro ψ S a w ht d;refine kae w (.func (.func f) (fst.map a.eval) #[]) ?_ ⟨kaf _,(RV.mth (by simp) fun i v x hv hx=>?_).here⟩
  · simp [execOp,c,Instr.makeFunc]
  · simp only [Array.getElem?_map,qt,qq,qat] at hv hx
    obtain ⟨y,hy,rfl⟩:=hv;obtain ⟨z,b,rfl⟩:=hx;rw [hy] at b;injection b with b;subst b;exact Sim.eval_tmps ht y
theorem kw8 {size:Nat}:∀ {i:Nat} {l:List (Nat×AV)} {xs:List FV},koa size i l=some xs->l=(xs.zipIdx i).map (fun p=>(p.2,AV.fz p.1))/\∀ x∈xs,x.cells.length=size/\∀ y∈x.cells,y.single=true
  | i,[],xs,h=>by simp only [koa,qc] at h;subst h;exact ⟨rfl,fun x hx=>by cases hx⟩
  | i,(j,x)::l,xs,h=>by
    cases x with
    | fz x=>
      simp only [koa] at h;cases a:(Nat.beq j i && (Nat.beq x.cells.length size && x.cells.all FV.single)) with
      | false=>rw [a] at h;cases h
      | true=>
        rw [a] at h;simp only [qe,qt] at h;obtain ⟨ys,b,rfl⟩:=h;simp only [qp] at a;obtain ⟨c,d,e⟩:=a;obtain rfl:=qk c;obtain ⟨h1,f⟩:=kw8 b;refine ⟨by rw [h1];rfl,fun y hy=>?_⟩;rcases qac.1 hy with rfl | hy
        · exact ⟨qk d,qr.1 e⟩
        · exact f y hy
    | _=>cases h
theorem kaig {n:Nat} {parts:Array (Nat×Operand)} {e:TypeId} {de:TD} {xs:List FV} (M:o.op = .buildSlice t n parts) (hd:TdOk P t d) (hk:d.kind = .slice e) (A:TdOk P e de) (f:0<de.size) (hn:xs.length=n) (T:n*de.size<=16777216)
    (hp:koa de.size 0 (kdf st parts)=some xs):NStep P o st (.lim de.size n xs):=by
  subst hn;intro ψ S a w ht U;obtain ⟨e1,e2⟩:=kob ht parts;obtain ⟨p1,p2⟩:=kw8 hp
  -- the parts' values
  obtain ⟨vs,r⟩:∃ vs:List Value,vs=parts.toList.map (fun p=>a.eval p.2):=⟨_,rfl⟩;have c:parts.toList.length=xs.length:=by have:(kdf st parts).length=xs.length:=(by rw [p1];simp);simpa [kdf] using this
  have B:vs.length=xs.length:=by rw [r];simp at c ⊢; exact c
  have g:∀ (i:Nat) (x:FV),xs[i]?=some x->∃ v p,vs[i]?=some v/\parts.toList[i]?=some p/\p.1=i/\RF S w v x:=fun i x hx=>by have hi:i<parts.toList.length:=(by rw [c];exact (qg.1 hx).1);have N:(kdf st parts)[i]?=some (i, .fz x):=(by rw [p1];simp [hx]);have s:parts.toList[i]?=some parts.toList[i]:=qb hi;have D:(parts.map fun (i,x)=>(i,a.eval x)).toList[i]?=some (parts.toList[i].1,a.eval parts.toList[i].2):=(by simp [s]);obtain ⟨r1,r2⟩:=e2 i _ _ D N;exact ⟨a.eval parts.toList[i].2,parts.toList[i],by rw [r,qq,s];rfl,s,r1,r2.inv⟩
  have E:(parts.map fun (i,x)=>(i,a.eval x)).toList=(vs.zipIdx 0).map (fun x=>(x.2,x.1)):=by
    apply qbg;intro i;by_cases hi:i<xs.length
    · obtain ⟨v,p,h1,K,O,_⟩:=g i xs[i] (qb hi)
      have:v=a.eval p.2:=(by rw [r,qq,K] at h1;simpa using h1.symm);simp only [Array.toList_map,qq,List.getElem?_zipIdx,h1,K,qa6,Nat.zero_add];rw [this,O]
    · rw [qaq (by simp at c ⊢; omega),qaq (by simp [B];omega)]
  have b:∀ v∈vs,v.cells.size=de.size:=fun v hv=>by obtain ⟨i,hi,rfl⟩:=qai.1 hv;obtain ⟨v,p,h1,_,_,F⟩:=g i xs[i] (qb (by omega));rw [qb hi] at h1;injection h1 with h1;rw [h1,(F.cells (p2 _ (q9 _)).2).1,(p2 _ (q9 _)).1]
  obtain ⟨z,G,Q⟩:=A.zero (P:=P) (w:=w);obtain ⟨cells,hcl⟩:∃ cells:Array Value,cells=(vs.flatMap fun v=>v.cells.toList).toArray:=⟨_,rfl⟩;have C:(Instr.buildSlice t xs.length (parts.map fun (i,x)=>(i,a.eval x))).run P w = .ok (.slice (some ⟨w.heap.size,0,none⟩) xs.length xs.length) (w.alloc (.cells cells e)):=by
    have H:¬ xs.length*de.size > 2 ^ 24:=(by omega);have k:∀ c0:Array Value,xs.length*de.size=c0.size->Instr.fill (fun i=>some (i*de.size,de.size)) c0 (parts.map fun (i,x)=>(i,a.eval x)).toList=some cells:=fun c0 I=>(by rw [E,Great.fill_whole f vs c0 b (by rw [B];exact I),hcl]);unfold Instr.buildSlice;rw [Sem.run_bind,run_underlying (hd.slice hk),Result.andThen_ok];simp only [Sem.run_bind,A.size,Result.andThen_ok,qi H];by_cases h0:xs.length*de.size=0
    · simp only [qo h0,Sem.run_bind,Sem.run_pure,Result.andThen_ok]
      rw [k]
      · rfl
      · simp
    · simp only [qi h0,Sem.run_bind,G,Result.andThen_ok,Sem.run_pure]
      rw [k]
      · rfl
      · simp
  refine kae (w.alloc (.cells cells e)) _ ?_ ⟨kbj _ _, .lim (.lst (fun i=>(vs.getD i undef).cells.toList) rfl (qx _) ?_ f (fun i x hx=>⟨w.heap.size,0,rfl, .inr (qx _),fun j u J=>?_⟩) (fun i x hx=>?_) fun i x j v y hx hv hy=>?_)⟩
  · have l:=C
    simp only [execOp,M,Sem.run_bind];rw [show (parts.map fun (i,x)=>(i,a.eval x))=parts.map (fun x=>(x.1,a.eval x.2)) from rfl] at l;simp [l]
  · have:xs.length*1<=xs.length*de.size:=Nat.mul_le_mul_left _ f
    omega
  · have hi:=(qg.1 hx).1
    have m:vs.getD i undef=vs[i]:=(by simp [List.getD,qb (show i<vs.length by omega)]);rw [m] at J;have L:j<de.size:=(by have:=(qg.1 J).1;rw [qal,b _ (q9 _)] at this;exact this);have q:=Great.flat_get f vs b (i*de.size+j);rw [show (i*de.size+j) / de.size=i by rw [Nat.mul_comm,Nat.mul_add_div f,Nat.div_eq_of_lt L];omega,show (i*de.size+j) % de.size=j by rw [Nat.mul_comm,Nat.mul_add_mod,Nat.mod_eq_of_lt L]] at q;rw [qb (show i<vs.length by omega)] at q;simp only [qa] at q;have R:(w.alloc (.cells cells e)).heap[w.heap.size]?=some (.cells cells e (0,0)):=heap_alloc_new w _;simp only [World.cell?,R,Nat.zero_add];simp only [Option.isSome_none,Bool.false_eq_true,if_false];rw [hcl];simp only [List.getElem?_toArray];rw [q];simpa using J
  · have hi:=(qg.1 hx).1
    have m:vs.getD i undef=vs[i]:=(by simp [List.getD,qb (show i<vs.length by omega)]);have:=p2 x (qn hx);rw [m];exact ⟨by rw [qal,b _ (q9 _)],this.1,this.2⟩
  · obtain ⟨u,p,h1,_,_,F⟩:=g i x hx
    have m:vs.getD i undef=u:=(by simp [List.getD,h1]);simp only [m] at hv;have:=(F.cells (p2 x (qn hx)).2).2.1 j v y (by simpa using hv) hy;exact (this.keep (Same.of_grow (kbj _ _))).mono fun _ h => .inl h
end Go.Proofs.YtjpkdegjcilndaaGreatDoor
set_option linter.all false
namespace Go.Proofs.YtjpkdegjcilndaaGreatDoor
open Go Go.RowKit
variable [Dr]
def Env.set (ψ:Env) (id n:Nat) (v:Value):Env:=⟨fun i=>if i=id then n else ψ.len i,fun i=>if i=id then v else ψ.val i⟩
section
variable {P:Program} {F S0:Nat->Prop} {N0:Nat} {w w':World} {S S':Nat->Prop} {ψ:Env} {K:Nat->Prop} {T:List (TypeId×TD)} {o:Oper} {a:Act} {st:St} {t:TypeId} {d:TD} {heap:List (Nat×AObj)} {ids:List Nat} {id:Nat}
theorem kbf (n:Nat) (v:Value):(ψ.set id n v).len id=n:=by simp [Env.set]
theorem kai (n:Nat) (v:Value):(ψ.set id n v).val id=v:=by simp [Env.set]
theorem ka6 (ψ:Env) {i:Nat} (h:i≠id) (n:Nat) (v:Value):(ψ.set id n v).len i=ψ.len i/\(ψ.set id n v).val i=ψ.val i:=by simp [Env.set,h]
theorem ka8 (h:id∉ids) (n:Nat) (v:Value):Ext (·∈ids) ψ (ψ.set id n v):=fun i hi=>by have a:i≠id:=fun e=>h (e ▸ hi);obtain ⟨h1,b⟩:=ka6 ψ a n v;exact ⟨by omega,fun _=>b⟩
theorem kl2 {n:Nat} {v:Value} (h:ψ.len id<n\/(ψ.len id=n/\v=ψ.val id)):Ext (·∈ids) ψ (ψ.set id n v):=fun i hi=>by
  by_cases a:i=id
  · subst a
    rw [kbf,kai];rcases h with h | ⟨h1,b⟩
    · exact ⟨by omega,fun e=>by omega⟩
    · exact ⟨by omega,fun _=>b⟩
  · obtain ⟨h1,b⟩:=ka6 ψ a n v
    exact ⟨by omega,fun _=>b⟩
theorem Core.addB {n:Nat} {v:Value} {ob:AObj} (h:Core F S0 N0 heap ids ψ S w) (o:Grow w w') (p:id∉ids) (l:∀ b,Blk v b->w.heap.size<=b)
    (x:ObR (ψ.set id n v) (·∈id::ids) S w' id ob):Core F S0 N0 ((id,ob)::heap) (id::ids) (ψ.set id n v) S w':=by
  have hk:Same S w w':=Same.of_grow o;have c:∀ i,i∈ids->i≠id:=fun i hi e=>p (e ▸ hi);refine ⟨fun i o' g=>?_,fun i i' o' o'' b g d q j f=>?_,fun b l=>qa8 (h.lt b l) o.size,h.s0,qav h.n0 o.size,fun b l=>qa8 (h.fr b l) o.size⟩
  · rw [kac] at g
    by_cases r:id=i
    · subst r
      rw [qo rfl] at g;injection g with g;subst g;refine ⟨qu ..,x,fun b a=>?_⟩;rw [kai] at a;have:=l b a;exact ⟨fun hs=>by have:=h.lt b hs;omega,fun y=>by have:=h.fr b y;omega, .inr (by have:=h.n0;omega)⟩
    · rw [qi r] at g
      obtain ⟨h1,m,t⟩:=h.obj i o' g;have s:=ka6 ψ (c i h1) n v;refine ⟨qh _ h1,m.keep (ka8 p n v) (fun _ h=>qh _ h) (fun _ h=>h) hk s fun b a=>o.block b (m.lt a),fun b a=>t b (by rw [s.2] at a;exact a)⟩
  · rw [kac] at g d
    by_cases r:id=i
    · subst r
      by_cases k:id=i'
      · exact q k
      · rw [qi k] at d
        obtain ⟨h1,m,t⟩:=h.obj i' o'' d;rw [kai] at j;rw [(ka6 ψ (c i' h1) n v).2] at f;have:=l b j;have:=m.lt f;omega
    · rw [qi r] at g
      obtain ⟨h1,m,t⟩:=h.obj i o' g;rw [(ka6 ψ (c i h1) n v).2] at j;by_cases k:id=i'
      · subst k
        rw [kai] at f;have:=l b f;have:=m.lt j;omega
      · rw [qi k] at d
        obtain ⟨u,z,A⟩:=h.obj i' o'' d;rw [(ka6 ψ (c i' u) n v).2] at f;exact h.inj i i' o' o'' b g d q j f
theorem Core.add {n:Nat} {v:Value} {ob:AObj} (h:Core F S0 N0 heap ids ψ S w) (f:Grow w w') (c:id∉ids) (g:∀ b,kak v=some b->w.heap.size<=b)
    (i:ObR (ψ.set id n v) (·∈id::ids) S w' id ob) (d:kfi v=[]:=by rfl):Core F S0 N0 ((id,ob)::heap) (id::ids) (ψ.set id n v) S w':=
  h.addB f c (fun b a=>g b (by
    rcases a with a | ⟨u,e,_⟩
    · exact a
    · rw [d] at e;cases e)) i
theorem Core.upd {n:Nat} {v:Value} {ob ob':AObj} (h:Core F S0 N0 heap ids ψ S w) (y:kaa heap id=some ob) (r:w.heap.size<=w'.heap.size) (l:∀ k,k<w.heap.size->¬ Blk (ψ.val id) k->w'.heap[k]?=w.heap[k]?)
    (hx:ψ.len id<n\/(ψ.len id=n/\v=ψ.val id)) (o:∀ b,Blk v b->Blk (ψ.val id) b\/w.heap.size<=b) (C:ObR (ψ.set id n v) (·∈ids) S w' id ob'):
    Core F S0 N0 ((id,ob')::heap) ids (ψ.set id n v) S w'/\Same S w w'/\∀ b,F b->w'.heap[b]?=w.heap[b]?:=by
  obtain ⟨A,D,s⟩:=h.obj id ob y;have hk:Same S w w':=fun b o hl=>l b hl fun e=>(s b e).1 o;refine ⟨⟨fun i o' a=>?_,fun i i' o' o'' b m d p j f=>?_,fun b o=>qa8 (h.lt b o) r,h.s0,qav h.n0 r,fun b o=>qa8 (h.fr b o) r⟩,hk,fun b z=>l b (h.fr b z) fun e=>(s b e).2.1 z⟩
  · rw [kac] at a
    by_cases q:id=i
    · subst q
      rw [qo rfl] at a;injection a with a;subst a;refine ⟨A,C,fun b c=>?_⟩;rw [kai] at c;rcases o b c with h1 | h1
      · exact s b h1
      · exact ⟨fun hs=>by have:=h.lt b hs;omega,fun z=>by have:=h.fr b z;omega, .inr (by have:=h.n0;omega)⟩
    · rw [qi q] at a
      obtain ⟨h1,t,B⟩:=h.obj i o' a;have u:=ka6 ψ (Ne.symm q) n v;refine ⟨h1,t.keep (kl2 hx) (fun _ h=>h) (fun _ h=>h) hk u fun b c=>l b (t.lt c) fun e=>h.inj i id o' ob b a y (Ne.symm q) c e,fun b c=>B b (by rw [u.2] at c;exact c)⟩
  · rw [kac] at m d
    by_cases q:id=i
    · subst q
      by_cases g:id=i'
      · exact p g
      · rw [qi g] at d
        obtain ⟨h1,t,B⟩:=h.obj i' o'' d;rw [kai] at j;rw [(ka6 ψ (Ne.symm g) n v).2] at f;rcases o b j with x | x
        · exact h.inj id i' ob o'' b y d p x f
        · have:=t.lt f;omega
    · rw [qi q] at m
      obtain ⟨h1,t,B⟩:=h.obj i o' m;rw [(ka6 ψ (Ne.symm q) n v).2] at j;by_cases g:id=i'
      · subst g
        rw [kai] at f;rcases o b f with x | x
        · exact h.inj i id o' ob b m y p j x
        · have:=t.lt j;omega
      · rw [qi g] at d
        obtain ⟨E,G,H⟩:=h.obj i' o'' d;rw [(ka6 ψ (Ne.symm g) n v).2] at f;exact h.inj i i' o' o'' b m d p j f
theorem kjo (ob:Obj) (a:∀ b,F b->b<w.heap.size):Fr F w (w.alloc ob):=Fr.of_grow a (kbj w ob)
theorem kaih {e:TypeId} {x:Operand} {cells:List AV} (g:o.op = .box e x) (hx:(st.eval x).cells=cells) (h1:cells.all AV.single=true) (c:st.ids.contains id=false):
    StepA P o st (.ref id 0 0) ((id, .box e cells)::st.heap) (id::st.ids):=by
  subst hx;have hs:∀ y∈(st.eval x).cells,y.single=true:=qr.1 h1;have c:id∉st.ids:=by simpa using c
  intro F S0 N0 ψ S a w f;obtain ⟨e1,e2,e3⟩:=RV.cells (f.eval x) hs;have d:=f.core;refine kae (w.alloc (.cells (a.eval x).cells e)) (.pointer (some ⟨w.heap.size,0,none⟩)) ?_ ⟨ψ.set id 0 (.pointer (some ⟨w.heap.size,0,none⟩)),S,?_,?_,kjo _ d.fr,ka8 c _ _,fun _ h=>qh _ h,fun _ h=>h,Same.of_grow (kbj _ _)⟩
  · simp [execOp,g,Instr.box,newVar,newRow]
  · refine d.add (kbj _ _) c (fun b j=>by simp [kak] at j;omega) ⟨kbf _ _,w.heap.size,_,kai _ _,heap_alloc_new w _,e1,hs,fun i v y hv hy=>?_⟩
    exact (e2 i v y hv hy).keep (ka8 c _ _) (fun _ h=>qh _ h) (fun _ h=>h) (Same.of_grow (kbj _ _))
  · exact .ref (qu ..) (qaj _) rfl fun _=>⟨w.heap.size,by rw [kai];rfl,rfl⟩
theorem k28 {e:TypeId} {cells:List AV} (l:o.op = .alloc e) (hd:TdOk P e d) (m:ksj d=some cells) (c:st.ids.contains id=false):
    StepA P o st (.ref id 0 0) ((id, .box e cells)::st.heap) (id::st.ids):=by
  have c:id∉st.ids:=by simpa using c
  intro F S0 N0 ψ S a w g;obtain ⟨z,j,k⟩:=hd.zero (P:=P) (w:=w);obtain ⟨z1,z2⟩:=k26 (S:=S) (K:=(·∈st.ids)) w ψ k m;have f:=g.core;refine kae (w.alloc (.cells z.cells e)) (.pointer (some ⟨w.heap.size,0,none⟩)) ?_ ⟨ψ.set id 0 (.pointer (some ⟨w.heap.size,0,none⟩)),S,?_,?_,kjo _ f.fr,ka8 c _ _,fun _ h=>qh _ h,fun _ h=>h,Same.of_grow (kbj _ _)⟩
  · simp [execOp,l,Instr.alloc,j,newVar,newRow]
  · refine f.add (kbj _ _) c (fun b n=>by simp [kak] at n;omega) ⟨kbf _ _,w.heap.size,_,kai _ _,heap_alloc_new w _,z1.1,z2,fun i v y hv hy=>?_⟩
    exact (z1.2 i v y hv hy).keep (ka8 c _ _) (fun _ h=>qh _ h) (fun _ h=>h) (Same.of_grow (kbj _ _))
  · exact .ref (qu ..) (qaj _) rfl fun _=>⟨w.heap.size,by rw [kai];rfl,rfl⟩
theorem kjd (g:Nat) (cs:Array Value) (k:Nat) (h:k≠g):(w.setRow g cs).heap[k]?=w.heap[k]?:=by simp only [World.setRow,Array.getElem?_modify];rw [qi (fun e=>h e.symm)]
theorem kic (g:Nat) {cs cs':Array Value} {e:TypeId} {fr:Nat×Nat} (h:w.heap[g]?=some (.cells cs e fr)):(w.setRow g cs').heap[g]?=some (.cells cs' e fr):=by simp [World.setRow,Array.getElem?_modify,h]
theorem k9p {e:TypeId} {x y:Operand} {off:Nat} {cells ys:List AV} (I:o.op = .store t x y) (hd:TdOk P t d) (hx:st.eval x = .ref id 0 off) (B:kaa st.heap id=some (.box e cells)) (hy:(st.eval y).cells=ys) (hl:ys.length=d.size) (h1:ys.all AV.single=true)
    (C:off+ys.length<=cells.length):StepA P o st .any ((id, .box e (kc1 cells off ys))::st.heap) st.ids:=by
  subst hy;have hs:∀ z∈(st.eval y).cells,z.single=true:=qr.1 h1;intro F S0 N0 ψ S a w r;obtain ⟨e1,e2,e3⟩:=RV.cells (r.eval y) hs;have f:=r.core;obtain ⟨J,⟨h0,b,cs,g,E,s,j,hr⟩,G⟩:=f.obj id _ B;have hv:=r.eval x;rw [hx] at hv;have H:a.eval x = .pointer (some ⟨b,off,none⟩):=by
    generalize a.eval x=u at hv;cases hv with
    | ref hK hn h1 hv=>
      obtain ⟨b',A,rfl⟩:=hv h0.symm;rw [g] at A;simp only [kak,qc] at A;rw [A]
  have hst:=run_storeCells_at (P:=P) b off e (a.eval y).cells.toList 0 cs w E (by simp [e1,s];omega) e3;simp only [Nat.add_zero,qal] at hst;obtain ⟨new,l⟩:∃ new:Array Value,new=(cs.toList.take off++(a.eval y).cells.toList++cs.toList.drop (off+(a.eval y).cells.size)).toArray:=⟨_,rfl⟩;rw [<- l] at hst;have D:new.toList=kc1 cs.toList off (a.eval y).cells.toList:=by rw [l];simp [kc1,qbh]
  have K:(w.setRow b new).heap.size=w.heap.size:=by simp [World.setRow]
  have m:∀ k,k<w.heap.size->¬ Blk (ψ.val id) k->(w.setRow b new).heap[k]?=w.heap[k]?:=fun k _ hk=>kjd b new k fun e=>hk (.of (by rw [g,e];rfl));have p:ψ.set id 0 (ψ.val id)=ψ:=by
    unfold Env.set;congr 1
    · funext i;split
      · rename_i h;rw [h,h0]
      · rfl
    · funext i;split
      · rename_i h;rw [h]
      · rfl
  have hk:Same S w (w.setRow b new):=fun k hk hl=>m k hl fun e=>(G k e).1 hk;obtain ⟨c1,c2,c3⟩:=f.upd (n:=0) (v:=ψ.val id) (w':=w.setRow b new) (ob' := .box e (kc1 cells off (st.eval y).cells)) B (by omega) m (.inr ⟨h0,rfl⟩) (fun b E => .inl E) (by
    rw [p];have q:off+(a.eval y).cells.toList.length<=cs.toList.length:=(by simp [e1,s];omega);refine ⟨h0,b,new,g,kic b E,?_,fun z c=>?_,fun i v z hv c=>?_⟩
    · rw [<- qal,D,kj9 _ _ _ q,kj9 _ _ _ C];simpa using s
    · unfold kc1 at c
      simp only [qau] at c;rcases c with c | c | c
      · exact j z (qbr c)
      · exact hs z c
      · exact j z (qbq c)
    · rw [<- qat,D,kmr _ _ _ q] at hv
      rw [kmr _ _ _ C] at c;simp only [qal,e1] at hv;split at hv
      · rename_i hi
        rw [qo hi] at c;exact (e2 _ v z (by simpa using hv) c).keep Ext.refl (fun _ h=>h) (fun _ h=>h) hk
      · rename_i hi
        rw [qi hi] at c;exact (hr _ v z (by simpa using hv) c).keep Ext.refl (fun _ h=>h) (fun _ h=>h) hk)
  rw [p] at c1;refine kjh (w.setRow b new) ?_ ⟨ψ,S,c1, .any,⟨rfl,rfl,rfl,by omega,c3,fun _=>qx _⟩,Ext.refl,fun _ h=>h,fun _ h=>h,c2⟩;simp only [execOp,I,Instr.storeAt,H,Instr.sureAddr,storeVar,hd.size,Sem.run_bind,Sem.run_pure,Result.andThen_ok];rw [qi (by rw [e1,hl];simp)];simp [hst]
end
end Go.Proofs.YtjpkdegjcilndaaGreatDoor
set_option linter.all false
namespace Go.Proofs.YtjpkdegjcilndaaGreatDoor
open Go Go.RowKit
variable [Dr]
section
variable {P:Program} {F S0:Nat->Prop} {N0:Nat} {w w':World} {S S':Nat->Prop} {ψ:Env} {K:Nat->Prop} {T:List (TypeId×TD)} {o:Oper} {a:Act} {st:St} {t:TypeId} {d:TD} {heap:List (Nat×AObj)} {ids:List Nat} {id:Nat}
def RowR (S:Nat->Prop) (w:World) (size:Nat) (xs:List FV) (cs:List Value):Prop:=
  ∀ (i:Nat) (x:FV) (j:Nat) (v:Value) (y:FV),xs[i]?=some x->cs[i*size+j]?=some v->x.cells[j]?=some y->RF S w v y
def ElR (size:Nat) (xs:List FV):Prop:=∀ x∈xs,x.cells.length=size/\∀ y∈x.cells,y.single=true
theorem RowR.append {size:Nat} {xs ys:List FV} {cs news:List Value} (hs:0<size) (h:RowR S w size xs cs) (k:RowR S w size ys news) (hl:cs.length=xs.length*size) (hx:ElR size xs):RowR S w size (xs++ys) (cs++news):=by
  intro i x j v y hi hv hy;by_cases a:i<xs.length
  · rw [qad a] at hi
    have b:j<size:=(by have:=(qg.1 hy).1;rw [(hx x (qn hi)).1] at this;exact this);have:(i+1)*size<=xs.length*size:=qa4 _ a;rw [qbc] at this;rw [qad (by omega)] at hv;exact h i x j v y hi hv hy
  · rw [qae (by omega)] at hi
    have:xs.length*size<=i*size:=qa4 _ (by omega);rw [qae (by omega),hl,show i*size+j - xs.length*size=(i - xs.length)*size+j by rw [Nat.sub_mul];omega] at hv;exact k _ x j v y hi hv hy
theorem RowR.keep {size:Nat} {xs:List FV} {cs:List Value} (h:RowR S w size xs cs) (hk:Same S w w'):RowR S w' size xs cs:=fun i x j v y h1 a b=>(h i x j v y h1 a b).keep hk
theorem kaao {e:TypeId} {de:TD} {t:TypeId} (ty:TypeId) (ht:P.underlying t=some (.slice e)) (G:TdOk P e de) (o:0<de.size) (H:de.zero.length=de.size) {v s:Value} {n m:Nat} {cs:List Value} {zs:List FV} (a:w.ownsRow 0 e de.size v n cs) (hs:RF S w s (.lst de.size m zs)) (I:n+zs.length<=9223372036854775807) (f:(n+zs.length)*de.bytes<=140737488355328):
    ∃ v' w' news,(Builtin.append_ #[t,t] ty #[v,s]).run P w = .ok v' w'/\w'.ownsRow 0 e de.size v' (n+zs.length) (cs++news)/\w.grownBy w' v.ownBlock/\(v'.ownBlock=v.ownBlock\/v'.ownBlock=some w.heap.size)/\news.length=zs.length*de.size /\
      RowR S w de.size zs news/\ElR de.size zs/\(zs=[]->v'=v):=by
  obtain ⟨A,cap,css,rfl,rfl,hc,hm,_,ha,hl,hr⟩:=hs.lst_inv;have k:ElR de.size zs:=fun x hx=>by obtain ⟨i,hi,rfl⟩:=qai.1 hx;exact (hl i _ (qb hi)).2
  obtain ⟨⟨i,z,hi,p,q,r,J⟩,_⟩:=G;have B:z.cells.size=de.size:=by rw [<- qal,J,H]
  by_cases C:zs=[]
  · subst C
    cases A with
    | none=>exact ⟨v,w,[],ky7 0 t ty e i de.size ht hi v n cs a cap,by simpa using a,World.grownBy.refl w _, .inl rfl,by simp,(fun i x j v y h=>by simp at h),k,fun _=>rfl⟩
    | some ad=>
      obtain ⟨v',w',d,F,K,U,L⟩:=run_append_own_at (P:=P) w 0 t ty e i z de.size de.bytes ht hi r p q B o v n cs a ad 0 cap [] (by simp) (fun j u h=>by simp at h) (by simp) (by unfold maxLen;simp at I;omega) (by simpa using f) (by omega);have M:v'=v:=by
        have hn:(Builtin.append_ #[t,t] ty #[v, .slice (some ad) 0 cap]).run P w = .ok v w:=by
          rcases a.2 with ⟨rfl,rfl⟩ | ⟨g,cap',cur,rfl,_,_,N,_⟩
          · simp [Builtin.append_,run_underlying ht,sizeOf,typeInfo,hi,Builtin.lenOf,Builtin.firstCells,loadCells,loadCellsFrom]
          · simp [Builtin.append_,run_underlying ht,sizeOf,typeInfo,hi,Builtin.lenOf,Builtin.firstCells,N,storeCells,loadCells,loadCellsFrom]
        rw [hn] at d;injection d with h1 F;exact h1.symm
      exact ⟨v',w',[],d,by simpa using F,K,L,by simp,(fun i x j v y h=>by simp at h),k,fun _=>M⟩
  · obtain ⟨y0,ys,rfl⟩:∃ y0 ys,zs=y0::ys:=by
      cases zs with
      | nil=>exact absurd rfl C
      | cons y ys=>exact ⟨y,ys,rfl⟩
    obtain ⟨b,off,rfl,_,_⟩:=ha 0 y0 rfl;obtain ⟨news,hn,l,T⟩:=k3o (b:=b) (w:=w) (size:=de.size) (Q:=fun c y=>(∀ j v z,c[j]?=some v->y.cells[j]?=some z->RF S w v z)/\(∀ u∈c,u.oneCell'=true)) (y0::ys) off fun i y hy=>(by obtain ⟨b',o',hA,_,l⟩:=ha i y hy;injection hA with hA;injection hA with e1 e2;subst e1 e2;obtain ⟨l1,l2,l3⟩:=hl i y hy;refine ⟨css i,l,l1,fun j v z hv o=>hr i y j v z hy hv o,fun u O=>?_⟩;obtain ⟨j,D,rfl⟩:=qai.1 O;have E:j<y.cells.length:=(by omega);exact (hr i y j _ _ hy (qb D) (qb E)).one (l3 _ (q9 E)));have h1:∀ u∈news,u.oneCell'=true:=(by intro u O;obtain ⟨j,D,rfl⟩:=qai.1 O;have R:j / de.size<(y0::ys).length:=(by rw [Nat.div_lt_iff_lt_mul o];omega);refine (T (j / de.size) _ (qb R)).2 _ ?_;rw [qbz];refine ⟨j % de.size,?_⟩;rw [qab,qo (Nat.mod_lt _ o),qao,show j / de.size*de.size+j % de.size=j by rw [Nat.mul_comm];exact Nat.div_add_mod j de.size];exact qb D);obtain ⟨v',w',d,F,K,U,L⟩:=run_append_own_at (P:=P) w 0 t ty e i z de.size de.bytes ht hi r p q B o v n cs a ⟨b,off,none⟩ (y0::ys).length cap news hn
      (fun j u h=>by rw [kb6];exact l j u h) h1 (by unfold maxLen;omega) f (by omega)
    refine ⟨v',w',news,d,F,K,L,hn,fun i x j v y hx hv hy=>?_,k,fun h=>by cases h⟩;have D:j<de.size:=(by have:=(qg.1 hy).1;rw [(k x (qn hx)).1] at this;exact this);refine (T i x hx).1 j v y ?_ hy;rw [qab,qo D,qao];exact hv
theorem kuo {v:Value} {e:TypeId} {size n:Nat} {cs:List Value} (h:w.ownsRow 0 e size v n cs):kak v=v.ownBlock:=by rcases h.2 with ⟨rfl,_⟩ | ⟨g,cap,cur,rfl,_⟩ <;> rfl
theorem kyb {v:Value} {e:TypeId} {size n b:Nat} {cs:List Value} (h:w.ownsRow 0 e size v n cs) (a:v.ownBlock=some b):Blk v b := .of (by rw [kuo h];exact a)
theorem k96 {v:Value} {e:TypeId} {size n b:Nat} {cs:List Value} (h:w.ownsRow 0 e size v n cs) (a:Blk v b):v.ownBlock=some b:=by rw [<- kuo h];rcases h.2 with ⟨rfl,_⟩ | ⟨g,cap,cur,rfl,_⟩ <;> exact a.sl
theorem krc {v:Value} {e:TypeId} {size n:Nat} {cs:List Value} (h:w.ownsRow 0 e size v n cs):v.oneCell'=true:=by rcases h.2 with ⟨rfl,_⟩ | ⟨g,cap,cur,rfl,_⟩ <;> rfl
theorem kagg {x y:Operand} {e:TypeId} {de:TD} {n m:Nat} (xs zs:List FV) (Z:o.op = .call { callee := .builtin .append,args:=#[x,y],argTypes:=#[t,t] }) (hd:TdOk P t d) (hk:d.kind = .slice e) (L:TdOk P e de) (M:0<de.size) (N:de.zero.length=de.size) (hx:st.eval x = .row id n) (C:kaa st.heap id=some (.frow e de.size xs)) (hn:n=xs.length) (hy:st.eval y = .fz (.lst de.size m zs)\/st.eval y = .lim de.size m zs) (D:(xs.length+zs.length)*(de.bytes+1)<=140737488355328):
    StepA P o st (.row id (xs++zs).length) ((id, .frow e de.size (xs++zs))::st.heap) st.ids:=by
  subst hn;intro F S0 N0 ψ S a w r;have l:=r.core;obtain ⟨O,⟨h0,E,cs,g,G,hr⟩,Q⟩:=l.obj id _ C;have hv:=r.eval x;rw [hx] at hv;have R:a.eval x=ψ.val id:=by
    generalize a.eval x=u at hv;cases hv with
    | row hK hn h1 hv=>exact hv h0.symm
  have T:RF S w (a.eval y) (.lst de.size m zs):=by
    have hv:=r.eval y;rcases hy with hy | hy
    · rw [hy] at hv;exact hv.inv
    · rw [hy] at hv
      generalize a.eval y=u at hv;cases hv with
      | lim h=>exact h
  have s:=D;rw [Nat.mul_add,qbi] at s;obtain ⟨v',w',news,p,f,c,H,aa,U,I,J⟩:=kaao o.type (hd.slice hk) L M N g T (by omega) (by omega);have V:(xs++zs).length=xs.length+zs.length:=qah;have K:ψ.len id<(xs++zs).length\/(ψ.len id=(xs++zs).length/\v'=ψ.val id):=by
    by_cases A:zs=[]
    · refine .inr ⟨by rw [h0,A];simp,J A⟩
    · have:0<zs.length:=List.length_pos_iff.2 A
      exact .inl (by omega)
  have q:∀ k,k<w.heap.size->¬ Blk (ψ.val id) k->w'.heap[k]?=w.heap[k]?:=fun k hk X=>c.block k hk fun e=>X (kyb g e.symm);have Y:Same S w w':=fun k hk hl=>q k hl fun e=>(Q k e).1 hk;obtain ⟨c1,c2,c3⟩:=l.upd (n:=(xs++zs).length) (v:=v') (w':=w') (ob' := .frow e de.size (xs++zs)) C c.size q K (fun b B=>by
      have B:=k96 f B;rcases H with h | h
      · exact .inl (kyb g (h ▸ B))
      · rw [h] at B;injection B with B;exact .inr (by omega))
    ⟨kbf _ _,E,cs++news,by rw [kai,V];exact f,fun z M=>(qau.1 M).elim (G z) (I z),(RowR.append E (fun i x j v y h1 h2 h3=>hr i x j v y h1 h2 h3) U g.1 G).keep Y⟩
  refine kae w' v' ?_ ⟨_,S,c1, .row O (by rw [kbf];exact qx _) (krc f) (fun _=>(kai _ _).symm),⟨c.os,c.tape,c.output,c.size,c3,fun _=>ksi p⟩,kl2 K,fun _ h=>h,fun _ h=>h,c2⟩;simp only [execOp,Z,resolve,invoke,builtin,Sem.run_bind,Sem.run_pure,Result.andThen_ok,List.map_toArray,qa0,List.map_nil,R,p]
theorem kh9 (id:Nat) (e:TypeId) (size t:Nat) (hx:st.get t = .fz (.atom (.slice none 0 0)):=by kernel_rfl) (c:st.ids.contains id=false:=by kernel_rfl) (d:0<size:=by decide):
    LeSt st { st with tmps:=(t, .row id 0)::st.tmps,heap:=(id, .frow e size [])::st.heap,ids:=id::st.ids }:=by
  have c:id∉st.ids:=by simpa using c
  intro F S0 N0 ψ S a w hs;have hadd:=hs.core.add (n:=0) (v := .slice none 0 0) (w':=w) (ob := .frow e size []) (kaf _) c (fun b f=>by cases f) ⟨kbf _ _,d,[],by rw [kai];exact ⟨by simp, .inl ⟨rfl,rfl⟩⟩,(fun x hx=>by cases hx),fun i x j v y h=>by simp at h⟩;refine ⟨ψ.set id 0 (.slice none 0 0),S,hs.defers,hs.size,fun k=>?_,hadd⟩;simp only [St.get,kat];split
  · rename_i hk
    subst hk;have:=hs.tmps t;rw [hx] at this;rw [this.atom];exact .row (qu ..) (qaj _) rfl fun _=>(kai _ _).symm
  · exact (hs.tmps k).keep (ka8 c _ _) (fun _ h=>qh _ h) (fun _ h=>h) (fun _ _ _=>rfl)
end
end Go.Proofs.YtjpkdegjcilndaaGreatDoor
set_option linter.all false
set_option linter.unusedSectionVars false
namespace Go.Proofs.YtjpkdegjcilndaaGreatDoor
open Go Go.RowKit
variable [Dr]
abbrev Res:=Option (AV×List (Nat×AObj)×List Nat)
def fresh (l:List Nat):Nat:=l.foldl Nat.max 0+1
def nres (st:St) (c:Option AV):Res:=match c with
  | some c=>some (c,st.heap,st.ids)
  | none=>none
def ko3 (T:List (TypeId×TD)) (t:TypeId):Bool:=match kad T t with
  | some d=>match d.kind with
    | .bool=>true
    | _=>false
  | none=>false
def lenX (T:List (TypeId×TD)) (st:St) (x:Operand) (t:TypeId):Option AV:=match kad T t with
  | some d=>match d.kind,st.eval x with
    | .slice _,x=>match lenOf x with
      | some n=>some (.fz (.atom (.int .i64 n)))
      | none=>none
    | .str, .fz (.atom (.string s))=>some (.fz (.atom (.int .i64 s.size)))
    | _,_=>none
  | none=>none
def fldX (T:List (TypeId×TD)) (st:St) (s:TypeId) (x:Operand) (f:Nat):Option AV:=match kad T s with
  | some d=>match d.kind with
    | .st fs=>match fs[f]? with
      | some (ft,off)=>match kad T ft with
        | some df=>bif Nat.beq df.size 0 then none else kpr st off (st.eval x)
        | none=>none
      | none=>none
    | _=>none
  | none=>none
def litX (T:List (TypeId×TD)) (st:St) (t:TypeId) (n:Nat) (parts:Array (Nat×Operand)):Option AV:=match kad T t with
  | some d=>match d.kind with
    | .slice e=>match kad T e with
      | some de=>match koa de.size 0 (kdf st parts) with
        | some xs=>bif Nat.beq xs.length n && (Nat.ble 1 de.size && Nat.ble (n*de.size) 16777216) then some (.lim de.size n xs) else none
        | none=>none
      | none=>none
    | _=>none
  | none=>none
def boxX (e:TypeId) (st:St) (cells:List AV):Res:=bif cells.all AV.single && !st.ids.contains (fresh st.ids) then some (.ref (fresh st.ids) 0 0,(fresh st.ids, .box e cells)::st.heap,fresh st.ids::st.ids) else none
def kxj (T:List (TypeId×TD)) (st:St) (t:TypeId) (x y:Operand):Res:=match kad T t,st.eval x with
  | some d, .ref id n off=>match kaa st.heap id with
    | some (.box e cells)=>bif Nat.beq n 0 && (Nat.beq (st.eval y).cells.length d.size && ((st.eval y).cells.all AV.single && Nat.ble (off+(st.eval y).cells.length) cells.length)) then some (.any,(id, .box e (kc1 cells off (st.eval y).cells))::st.heap,st.ids) else none
    | _=>none
  | _,_=>none
def k1q (T:List (TypeId×TD)) (o:Oper) (st:St):Option AV:=match o.op with
  | .move x=>some (st.eval x)
  | .assign x=>some (st.eval x)
  | .pick c x y=>match st.eval c with
    | .fz (.atom (.bool b))=>some (bif b then st.eval x else st.eval y)
    | _=>none
  | .binOp op t x y _=>match st.eval x,st.eval y with
    | .fz (.atom u), .fz (.atom v)=>match binV (ko3 T t) op u v with
      | some r=>some (.fz (.atom r))
      | none=>none
    | _,_=>none
  | .unOp op _ x=>match st.eval x with
    | .fz (.atom u)=>match unV op u with
      | some r=>some (.fz (.atom r))
      | none=>none
    | _=>none
  | .load t x=>match kad T t,knl st (st.eval x) with
    | some d,some xs=>km9 d xs
    | _,_=>none
  | .fieldAddr s x f=>fldX T st s x f
  | .extract x i=>match st.eval x with | .fz (.tup xs)=>(xs[i]?).map .fz | .tup xs=>xs[i]? | _=>none
  | .nilCheck x=>kpr st 0 (st.eval x)
  | .build t parts=>k7x T st t parts
  | .indexAddr t x y=>arrX T st t x y
  | .buildSlice t n parts=>litX T st t n parts
  | .call c=>match c.callee,c.args.toList,c.argTypes.toList with
    | .builtin .len,[x],[t]=>lenX T st x t
    | _,_,_=>none
  | .makeFunc (.func f) first cap=>bif first.isEmpty then some (.fn f (cap.toList.map st.eval)) else (bif cap.isEmpty then some (.mth f (first.toList.map st.eval)) else none)
  | _=>none
def kx6 (T:List (TypeId×TD)) (o:Oper) (st:St):Res:=match o.op with
  | .box e x=>boxX e st (st.eval x).cells
  | .alloc e=>match kad T e with
    | some d=>match ksj d with
      | some cells=>boxX e st cells
      | none=>none
    | none=>none
  | .store t x y=>kxj T st t x y
  | _=>nres st (k1q T o st)
variable {P:Program} {w w':World} {S S':Nat->Prop} {ψ:Env} {T:List (TypeId×TD)} {o:Oper} {a:Act} {st:St}
theorem kafe {c0:Option AV} {c:AV} {h:List (Nat×AObj)} {i:List Nat} (hr:nres st c0=some (c,h,i)) (hn:∀ x,c0=some x->NStep P o st x):StepA P o st c h i:=by
  cases c0 with
  | none=>cases hr
  | some x=>
    simp only [nres,qc,qv] at hr;obtain ⟨rfl,rfl,rfl⟩:=hr;exact (hn x rfl).step
theorem kng {α:Type} {xs:Array α} {x:α} (h:xs.toList=[x]):xs=#[x]:=by apply qbm;simpa using h
theorem kii (c:AV) (h:TOk P T:=by exact tt_ok) (hx:k1q T o st=some c:=by kernel_rfl):NStep P o st c:=by
  unfold k1q at hx;split at hx
  · rename_i x a;injection hx with hx;subst hx;exact k1u (.inl a)
  · rename_i x a;injection hx with hx;subst hx;exact k1u (.inr a)
  · rename_i c x y a
    split at hx
    · rename_i b g
      injection hx with hx;subst hx;exact kaee a g
    · cases hx
  · rename_i op t x y yt a
    split at hx
    · rename_i u v p hv
      split at hx
      · rename_i r hr
        injection hx with hx;subst hx;refine kacs (ko3 T t) (fun g=>?_) a p hv hr;unfold ko3 at g;split at g
        · rename_i d hd
          split at g
          · rename_i hk
            obtain ⟨_,e,h1,l⟩:=h.get hd;rw [hk] at l;cases e <;> simp [kg3] at l;exact h1
          · cases g
        · cases g
      · cases hx
    · cases hx
  · rename_i op t x a
    split at hx
    · rename_i u p
      split at hx
      · rename_i r hr
        injection hx with hx;subst hx;exact n_un a p hr
      · cases hx
    · cases hx
  · rename_i t x a
    split at hx
    · rename_i d xs hd j
      exact kamx a (h.get hd) j hx
    · cases hx
  · rename_i s x f a
    unfold fldX at hx;split at hx
    · rename_i d hd
      split at hx
      · rename_i fs hk
        split at hx
        · rename_i ft off A
          split at hx
          · rename_i df q
            cases g:Nat.beq df.size 0 with
            | true=>rw [g] at hx;cases hx
            | false=>
              rw [g] at hx;exact kajy a (h.get hd) hk A (h.get q) (fun e=>by rw [e] at g;cases g) hx
          · cases hx
        · cases hx
      · cases hx
    · cases hx
  · rename_i x i a
    exact k4k a hx
  · rename_i x a
    exact kabr a hx
  · rename_i t parts a
    exact k9o h a hx
  · rename_i t x y a
    exact n_arr h a hx
  · rename_i t n parts a
    unfold litX at hx;split at hx
    · rename_i d hd
      split at hx
      · rename_i e hk
        split at hx
        · rename_i de w
          split at hx
          · rename_i xs j
            cases g:(Nat.beq xs.length n && (Nat.ble 1 de.size && Nat.ble (n*de.size) 16777216)) with
            | false=>rw [g] at hx;cases hx
            | true=>
              rw [g] at hx;simp only [qe,qc] at hx;subst hx;simp only [qp] at g;exact kaig a (h.get hd) hk (h.get w) (qs g.2.1) (qk g.1) (qs g.2.2) j
          · cases hx
        · cases hx
      · cases hx
    · cases hx
  · rename_i c a
    split at hx
    · rename_i x t h1 l z
      have m:o.op = .call { callee := .builtin .len,args:=#[x],argTypes:=#[t] }:=(by obtain ⟨cl,as_,ts⟩:=c;simp only at h1 l z;rw [a,h1,kng l,kng z]);unfold lenX at hx;split at hx
      · rename_i d hd
        split at hx
        · rename_i e hk
          split at hx
          · rename_i n hn
            injection hx with hx;subst hx;exact k19 m (h.get hd) hk hn
          · cases hx
        · rename_i s hk hv
          injection hx with hx;subst hx;exact k4q m (h.get hd) hk hv
        · cases hx
      · cases hx
    · cases hx
  · rename_i f first cap a
    cases g:first.isEmpty with
    | false=>
      rw [g] at hx;cases k:cap.isEmpty with
      | false=>rw [k] at hx;cases hx
      | true=>
        rw [k] at hx;have:cap=#[]:=(by simpa using k);subst this;simp only [qd,qe,qc] at hx;subst hx;exact kaid a
    | true=>
      rw [g] at hx;have:first=#[]:=by simpa using g
      subst this;simp only [qe,qc] at hx;subst hx;exact kafm a
  · cases hx
theorem k7u (f:TOk P T) {c:AV} {h:List (Nat×AObj)} {i:List Nat} (hx:kx6 T o st=some (c,h,i)):StepA P o st c h i:=by
  unfold kx6 at hx;split at hx
  · rename_i e x b
    unfold boxX at hx;cases a:((st.eval x).cells.all AV.single && !st.ids.contains (Go.Proofs.YtjpkdegjcilndaaGreatDoor.fresh st.ids)) with
    | false=>rw [a] at hx;cases hx
    | true=>
      rw [a] at hx;simp only [qe,qc,qv] at hx;obtain ⟨rfl,rfl,rfl⟩:=hx;simp only [qp,qbp] at a;exact kaih b rfl a.1 a.2
  · rename_i e b
    split at hx
    · rename_i d hd
      split at hx
      · rename_i cells g
        unfold boxX at hx;cases a:(cells.all AV.single && !st.ids.contains (Go.Proofs.YtjpkdegjcilndaaGreatDoor.fresh st.ids)) with
        | false=>rw [a] at hx;cases hx
        | true=>
          rw [a] at hx;simp only [qe,qc,qv] at hx;obtain ⟨rfl,rfl,rfl⟩:=hx;simp only [qp,qbp] at a;exact k28 b (f.get hd) g a.2
      · cases hx
    · cases hx
  · rename_i t x y b
    unfold kxj at hx;split at hx
    · rename_i d id n off hd j
      split at hx
      · rename_i e cells k
        cases a:(Nat.beq n 0 && (Nat.beq (st.eval y).cells.length d.size && ((st.eval y).cells.all AV.single && Nat.ble (off+(st.eval y).cells.length) cells.length))) with
        | false=>rw [a] at hx;cases hx
        | true=>
          rw [a] at hx;simp only [qe,qc,qv] at hx;obtain ⟨rfl,rfl,rfl⟩:=hx;simp only [qp] at a;obtain ⟨b1,b2,b3,b4⟩:=a;obtain rfl:=qk b1;exact k9p b (f.get hd) j k rfl (qk b2) b3 (qs b4)
      · cases hx
    · cases hx
  · exact kafe hx fun z g=>kii _ (h:=f) (hx:=g)
def kuy (st:St) (o:Oper):Bool:=match o.dst with
  | some t=>Nat.blt t st.n
  | none=>true
theorem kmp {st:St} {o:Oper} (h:kuy st o=true):∀ t,o.dst=some t->t<st.n:=fun t ht=>by unfold kuy at h;rw [ht] at h;exact qbt (by simpa [Nat.blt_eq] using h)
end Go.Proofs.YtjpkdegjcilndaaGreatDoor
set_option linter.all false
set_option linter.unusedSectionVars false
namespace Go.Proofs.YtjpkdegjcilndaaGreatDoor
open Go Go.RowKit
variable [Dr]
inductive C0 where
  | keep
  | zr
  | sl (size:Nat)
  | px
inductive C1 where
  | one (c:C0)
  | ag (l:List C0)
  | drop
def co0F:C0->FV->FV
  | .sl size, .atom (.slice none 0 0)=>bif Nat.ble 1 size then .lst size 0 [] else .atom (.slice none 0 0)
  | .px, .atom (.pointer none) => .bx []
  | _,x=>x
def co0:C0->AV->AV
  | c, .fz x => .fz (co0F c x)
  | .sl _, .lim s n xs => .fz (.lst s n xs)
  | .zr, .row id _ => .row id 0
  | _,x=>x
def zipF:List C0->List FV->List FV
  | c::l,x::xs=>co0F c x::zipF l xs
  | _,xs=>xs
def zip0:List C0->List AV->List AV
  | c::l,x::xs=>co0 c x::zip0 l xs
  | _,xs=>xs
def co1:C1->AV->AV
  | .one c,x=>co0 c x
  | .ag l, .fz (.agg xs) => .fz (.agg (zipF l xs))
  | .ag l, .agg xs=>aggA (zip0 l xs)
  | .ag _,x=>x
  | .drop,_ => .any
def ok0 (ids:List Nat):AV->Bool
  | .fz _=>true
  | .ref id _ _=>ids.contains id
  | .row id _=>ids.contains id
  | .mp id=>ids.contains id
  | .opt id=>ids.contains id
  | .sdp id _=>ids.contains id
  | .win id _ _ _ _=>ids.contains id
  | .irow id _ _=>ids.contains id
  | .iref id _ _ _=>ids.contains id
  | .lim _ _ _=>true
  | .any=>true
  | _=>false
def ok1 (ids:List Nat):AV->Bool
  | .agg cs=>cs.all (ok0 ids)
  | .tup cs=>cs.all (ok0 ids)
  | .fn _ cs=>cs.all (ok0 ids)
  | .mth _ cs=>cs.all (ok0 ids)
  | x=>ok0 ids x
def kuq (st:St) (ids:List Nat):List (Nat×C1)->Option (List (Nat×AV))
  | []=>some []
  | (t,c)::l=>match ok1 ids (co1 c (st.get t)),kuq st ids l with
    | true,some r=>some ((t,co1 c (st.get t))::r)
    | _,_=>none
def kup (st:St) (ids:List Nat):List (Nat×List C0)->Option (List (Nat×AObj))
  | []=>some []
  | (id,l)::r=>match kaa st.heap id,kup st ids r with
    | some (.box e cells),some r'=>bif ids.contains id && (zip0 l cells).all (ok1 ids) then some ((id, .box e (zip0 l cells))::r') else none
    | some (.frow e s xs),some r'=>bif ids.contains id then some ((id, .frow e s xs)::r') else none
    | some (.gho cs vs),some r'=>bif ids.contains id && vs.all (ok1 ids) then some ((id, .gho cs vs)::r') else none
    | some (.was ψ0 ids0 S0 w0),some r'=>bif ids.contains id && ids0.all ids.contains then some ((id, .was ψ0 ids0 S0 w0)::r') else none
    | some (.smap kv),some r'=>bif ids.contains id then some ((id, .smap kv)::r') else none
    | some (.tab g ov eo ei rows),some r'=>bif ids.contains id then some ((id, .tab g ov eo ei rows)::r') else none
    | some (.glb gs),some r'=>bif ids.contains id then some ((id, .glb gs)::r') else none
    | some (.sit s pos),some r'=>bif ids.contains id then some ((id, .sit s pos)::r') else none
    | some (.memo Φ h),some r'=>bif ids.contains id then some ((id, .memo Φ none)::r') else none
    | some (.xo (.imap kv)),some r'=>bif ids.contains id then some ((id, .xo (.imap kv))::r') else none
    | some (.xo (.opq J)),some r'=>bif ids.contains id then some ((id, .xo (.opq J))::r') else none
    | some (.xo (.mit m a b c)),some r'=>bif ids.contains id && ids.contains m then some ((id, .xo (.mit m a b c))::r') else none
    | _,_=>none
def xoK:XO->Bool
  | .imap _=>true
  | .opq _=>true
  | _=>false
def coSt (st:St) (ids:List Nat) (ts:List (Nat×C1)) (os:List (Nat×List C0)):Option St:=match ids.all st.ids.contains,kuq st ids ts,kup st ids os with
  | true,some tmps,some heap=>some { n:=st.n,tmps:=tmps,heap:=heap,ids:=ids,dfr:=st.dfr }
  | _,_,_=>none
variable {P:Program} {F S0:Nat->Prop} {N0:Nat} {w w':World} {S S':Nat->Prop} {ψ:Env} {K K':Nat->Prop} {T:List (TypeId×TD)} {o:Oper} {a:Act} {st:St} {t:TypeId} {d:TD} {ids:List Nat}
theorem k29 {c:C0} {v:Value} {x:FV} (h:RF S w v x):RF S w v (co0F c x):=by
  unfold co0F;split
  · rename_i size
    cases a:Nat.ble 1 size with
    | false=>exact h
    | true=>
      rw [h.atom_eq];exact .lst (A:=none) (cap:=0) (xs:=[]) (fun _=>[]) rfl (qx _) (by omega) (qs a) (fun i x hx=>by simp at hx) (fun i x hx=>by simp at hx) (fun i x j v y hx=>by simp at hx)
  · rw [h.atom_eq]
    exact .bn
  · exact h
theorem kti {c:C0} {x:FV} (h:x.single=true):(co0F c x).single=true:=by
  unfold co0F;split
  · rename_i size
    cases a:Nat.ble 1 size <;> rfl
  · rfl
  · exact h
theorem kae6 {c:C0} {v:Value} {x:AV} (h:RV ψ K S w v x):RV ψ K S w v (co0 c x):=by
  unfold co0;split
  · exact .fz (k29 h.inv)
  · cases h with | lim h=>exact .fz h
  · cases h with | row hK hn h1 hv=>exact .row hK (qaj _) h1 fun h=>hv (by omega)
  · exact h
theorem kabc {c:C0} {x:AV} (h:x.single=true):(co0 c x).single=true:=by
  unfold co0;split
  · exact kti h
  · rfl
  · rfl
  · exact h
theorem ku7:∀ (l:List C0) (xs:List FV) (i:Nat) (y:FV),(zipF l xs)[i]?=some y->∃ c x,xs[i]?=some x/\(y=co0F c x\/y=x)
  | [],xs,i,y,h=>⟨.keep,y,by cases xs <;> exact h, .inr rfl⟩
  | c::l,[],i,y,h=>by simp [zipF] at h
  | c::l,x::xs,0,y,h=>by simp [zipF] at h;exact ⟨c,x,rfl, .inl h.symm⟩
  | c::l,x::xs,i+1,y,h=>by simp only [zipF,qag] at h ⊢;exact ku7 l xs i y h
theorem k0d:∀ (l:List C0) (xs:List FV),(zipF l xs).length=xs.length
  | [],xs=>by cases xs <;> rfl
  | c::l,[]=>rfl
  | c::l,x::xs=>by simp [zipF,k0d l xs]
theorem kzs:∀ (l:List C0) (xs:List AV) (i:Nat) (y:AV),(zip0 l xs)[i]?=some y->∃ c x,xs[i]?=some x/\(y=co0 c x\/y=x)
  | [],xs,i,y,h=>⟨.keep,y,by cases xs <;> exact h, .inr rfl⟩
  | c::l,[],i,y,h=>by simp [zip0] at h
  | c::l,x::xs,0,y,h=>by simp [zip0] at h;exact ⟨c,x,rfl, .inl h.symm⟩
  | c::l,x::xs,i+1,y,h=>by simp only [zip0,qag] at h ⊢;exact kzs l xs i y h
theorem kz5:∀ (l:List C0) (xs:List AV),(zip0 l xs).length=xs.length
  | [],xs=>by cases xs <;> rfl
  | c::l,[]=>rfl
  | c::l,x::xs=>by simp [zip0,kz5 l xs]
theorem kaa0 (l:List C0) {cs:Array Value} {xs:List AV} (h1:∀ x∈xs,x.single=true) (hr:∀ (i:Nat) (v:Value) (x:AV),cs[i]?=some v->xs[i]?=some x->RV ψ K S w v x):
    (∀ x∈zip0 l xs,x.single=true)/\∀ (i:Nat) (v:Value) (x:AV),cs[i]?=some v->(zip0 l xs)[i]?=some x->RV ψ K S w v x:=by
  refine ⟨fun x hx=>?_,fun i v x hv hx=>?_⟩
  · obtain ⟨i,hi⟩:=qbz.1 hx
    obtain ⟨c,y,hy,a⟩:=kzs l xs i x hi;have:=h1 y (qn hy);rcases a with rfl | rfl
    · exact kabc this
    · exact this
  · obtain ⟨c,y,hy,a⟩:=kzs l xs i x hx
    have:=hr i v y hv hy;rcases a with rfl | rfl
    · exact kae6 this
    · exact this
theorem kpx (c:C1) {v:Value} {x:AV} (h:RV ψ K S w v x):RV ψ K S w v (co1 c x):=by
  unfold co1;split
  · exact kae6 h
  · rename_i l xs
    have h:=h.inv;cases h with
    | agg hs h1 hr=>
      refine .fz (.agg (by rw [k0d];exact hs) (fun y hy=>?_) fun i v y hv hy=>?_)
      · obtain ⟨i,hi⟩:=qbz.1 hy
        obtain ⟨c,z,a,b⟩:=ku7 l xs i y hi;have:=h1 z (qn a);rcases b with rfl | rfl
        · exact kti this
        · exact this
      · obtain ⟨c,z,a,b⟩:=ku7 l xs i y hy
        have:=hr i v z hv a;rcases b with rfl | rfl
        · exact k29 this
        · exact this
  · rename_i l xs
    cases h with
    | agg hs h1 hr=>
      obtain ⟨z1,z2⟩:=kaa0 l h1 hr;exact RV.aggA (by rw [kz5];exact hs) z1 z2
  · exact h
  · exact .any
theorem RV.sub0 {v:Value} {x:AV} (h:RV ψ K S w v x) (a:ok0 ids x=true):RV ψ (·∈ids) S w v x:=by
  cases h with
  | fz h=>exact .fz h
  | agg=>cases a
  | tup=>cases a
  | ref hK hn h1 hv=>exact .ref (by simpa [ok0] using a) hn h1 hv
  | row hK hn h1 hv=>exact .row (by simpa [ok0] using a) hn h1 hv
  | lim h=>exact .lim h
  | mp hK h1 hv=>exact .mp (by simpa [ok0] using a) h1 hv
  | opt hK h1 hv=>exact .opt (by simpa [ok0] using a) h1 hv
  | sdp hK hn h1 hv=>exact .sdp (by simpa [ok0] using a) hn h1 hv
  | win hK hn h1 hv=>exact .win (by simpa [ok0] using a) hn h1 hv
  | irow hK hn h1 hv=>exact .irow (by simpa [ok0] using a) hn h1 hv
  | iref hK hn h1 hv=>exact .iref (by simpa [ok0] using a) hn h1 hv
  | bsl=>cases a
  | fn=>cases a
  | mth=>cases a
  | any=>exact .any
theorem RV.sub1 {v:Value} {x:AV} (h:RV ψ K S w v x) (a:ok1 ids x=true):RV ψ (·∈ids) S w v x:=by
  cases h with
  | fz h=>exact .fz h
  | agg hs h1 hr=>exact .agg hs h1 fun i v x hv hx=>(hr i v x hv hx).sub0 (qr.1 a x (qn hx))
  | tup hs hr=>exact .tup hs fun i v x hv hx=>(hr i v x hv hx).sub0 (qr.1 a x (qn hx))
  | ref hK hn h1 hv=>exact .ref (by simpa [ok1,ok0] using a) hn h1 hv
  | row hK hn h1 hv=>exact .row (by simpa [ok1,ok0] using a) hn h1 hv
  | lim h=>exact .lim h
  | mp hK h1 hv=>exact .mp (by simpa [ok1,ok0] using a) h1 hv
  | opt hK h1 hv=>exact .opt (by simpa [ok1,ok0] using a) h1 hv
  | sdp hK hn h1 hv=>exact .sdp (by simpa [ok1,ok0] using a) hn h1 hv
  | win hK hn h1 hv=>exact .win (by simpa [ok1,ok0] using a) hn h1 hv
  | irow hK hn h1 hv=>exact .irow (by simpa [ok1,ok0] using a) hn h1 hv
  | iref hK hn h1 hv=>exact .iref (by simpa [ok1,ok0] using a) hn h1 hv
  | bsl=>cases a
  | fn hs hr=>exact .fn hs fun i v x hv hx=>(hr i v x hv hx).sub0 (qr.1 a x (qn hx))
  | mth hs hr=>exact .mth hs fun i v x hv hx=>(hr i v x hv hx).sub0 (qr.1 a x (qn hx))
  | any=>exact .any
theorem kux:∀ {ts:List (Nat×C1)} {r:List (Nat×AV)} (t:Nat),kuq st ids ts=some r->look .any r t = .any\/∃ c,look .any r t=co1 c (st.get t)/\ok1 ids (co1 c (st.get t))=true
  | [],r,t,h=>by simp only [kuq,qc] at h;subst h;exact .inl rfl
  | (k,c)::l,r,t,h=>by
    simp only [kuq] at h;split at h
    · rename_i r' h1 a
      injection h with h;subst h;rw [kat];by_cases hk:k=t
      · subst hk
        rw [qo rfl];exact .inr ⟨c,rfl,h1⟩
      · rw [qi hk]
        exact kux t a
    · cases h
theorem kd1:∀ {os:List (Nat×List C0)} {r:List (Nat×AObj)} (id:Nat) (ob:AObj),kup st ids os=some r->kaa r id=some ob->id∈ids /\
    ((∃ l e cells,kaa st.heap id=some (.box e cells)/\ob = .box e (zip0 l cells)/\(zip0 l cells).all (ok1 ids)=true)\/(∃ e s xs,kaa st.heap id=some (.frow e s xs)/\ob = .frow e s xs)\/(∃ cs vs,kaa st.heap id=some (.gho cs vs)/\ob = .gho cs vs/\vs.all (ok1 ids)=true) \/
      (∃ ψ0 ids0 S0 w0,kaa st.heap id=some (.was ψ0 ids0 S0 w0)/\ob = .was ψ0 ids0 S0 w0/\ids0.all ids.contains=true)\/(∃ kv,kaa st.heap id=some (.smap kv)/\ob = .smap kv)\/(∃ g ov eo ei rows,kaa st.heap id=some (.tab g ov eo ei rows)/\ob = .tab g ov eo ei rows)\/(∃ gs,kaa st.heap id=some (.glb gs)/\ob = .glb gs)\/(∃ s pos,kaa st.heap id=some (.sit s pos)/\ob = .sit s pos)\/(∃ Φ h,kaa st.heap id=some (.memo Φ h)/\ob = .memo Φ none)\/(∃ k,kaa st.heap id=some (.xo k)/\ob = .xo k/\xoK k=true)\/∃ m a b c,kaa st.heap id=some (.xo (.mit m a b c))/\ob = .xo (.mit m a b c)/\ids.contains m=true)
  | [],r,id,ob,h,d=>by simp only [kup,qc] at h;subst h;cases d
  | (k,l)::os,r,id,ob,h,d=>by
    simp only [kup] at h;split at h
    · rename_i e cells r' h1 i
      cases f:(ids.contains k && (zip0 l cells).all (ok1 ids)) with
      | false=>rw [f] at h;cases h
      | true=>
        rw [f] at h;simp only [qe,qc] at h;subst h;rw [kac] at d;simp only [qp] at f;by_cases hk:k=id
        · subst hk
          rw [qo rfl] at d;injection d with d;exact ⟨by simpa using f.1, .inl ⟨l,e,cells,h1,d.symm,f.2⟩⟩
        · rw [qi hk] at d
          exact kd1 id ob i d
    · rename_i e s xs r' h1 i
      cases f:ids.contains k with
      | false=>rw [f] at h;cases h
      | true=>
        rw [f] at h;simp only [qe,qc] at h;subst h;rw [kac] at d;by_cases hk:k=id
        · subst hk
          rw [qo rfl] at d;injection d with d;exact ⟨by simpa using f, .inr (.inl ⟨e,s,xs,h1,d.symm⟩)⟩
        · rw [qi hk] at d
          exact kd1 id ob i d
    · rename_i cs vs r' h1 i
      cases f:(ids.contains k && vs.all (ok1 ids)) with
      | false=>rw [f] at h;cases h
      | true=>
        rw [f] at h;simp only [qe,qc] at h;subst h;rw [kac] at d;simp only [qp] at f;by_cases hk:k=id
        · subst hk
          rw [qo rfl] at d;injection d with d;exact ⟨by simpa using f.1, .inr (.inr (.inl ⟨cs,vs,h1,d.symm,f.2⟩))⟩
        · rw [qi hk] at d
          exact kd1 id ob i d
    · rename_i ψ0 ids0 S0 w0 r' h1 i
      cases f:(ids.contains k && ids0.all ids.contains) with
      | false=>rw [f] at h;cases h
      | true=>
        rw [f] at h;simp only [qe,qc] at h;subst h;rw [kac] at d;simp only [qp] at f;by_cases hk:k=id
        · subst hk
          rw [qo rfl] at d;injection d with d;exact ⟨by simpa using f.1, .inr (.inr (.inr (.inl ⟨ψ0,ids0,S0,w0,h1,d.symm,f.2⟩)))⟩
        · rw [qi hk] at d
          exact kd1 id ob i d
    · rename_i kv r' h1 i
      cases f:ids.contains k with
      | false=>rw [f] at h;cases h
      | true=>
        rw [f] at h;simp only [qe,qc] at h;subst h;rw [kac] at d;by_cases hk:k=id
        · subst hk
          rw [qo rfl] at d;injection d with d;exact ⟨by simpa using f, .inr (.inr (.inr (.inr (.inl ⟨kv,h1,d.symm⟩))))⟩
        · rw [qi hk] at d
          exact kd1 id ob i d
    · rename_i g ov eo ei rows r' h1 i
      cases f:ids.contains k with
      | false=>rw [f] at h;cases h
      | true=>
        rw [f] at h;simp only [qe,qc] at h;subst h;rw [kac] at d;by_cases hk:k=id
        · subst hk
          rw [qo rfl] at d;injection d with d;exact ⟨by simpa using f, .inr (.inr (.inr (.inr (.inr (.inl ⟨g,ov,eo,ei,rows,h1,d.symm⟩)))))⟩
        · rw [qi hk] at d
          exact kd1 id ob i d
    · rename_i gs r' h1 i
      cases f:ids.contains k with
      | false=>rw [f] at h;cases h
      | true=>
        rw [f] at h;simp only [qe,qc] at h;subst h;rw [kac] at d;by_cases hk:k=id
        · subst hk
          rw [qo rfl] at d;injection d with d;exact ⟨by simpa using f, .inr (.inr (.inr (.inr (.inr (.inr (.inl ⟨gs,h1,d.symm⟩))))))⟩
        · rw [qi hk] at d
          exact kd1 id ob i d
    · rename_i s pos r' h1 i
      cases f:ids.contains k with
      | false=>rw [f] at h;cases h
      | true=>
        rw [f] at h;simp only [qe,qc] at h;subst h;rw [kac] at d;by_cases hk:k=id
        · subst hk
          rw [qo rfl] at d;injection d with d;exact ⟨by simpa using f, .inr (.inr (.inr (.inr (.inr (.inr (.inr (.inl ⟨s,pos,h1,d.symm⟩)))))))⟩
        · rw [qi hk] at d
          exact kd1 id ob i d
    · rename_i Φ j r' h1 i
      cases f:ids.contains k with
      | false=>rw [f] at h;cases h
      | true=>
        rw [f] at h;simp only [qe,qc] at h;subst h;rw [kac] at d;by_cases hk:k=id
        · subst hk
          rw [qo rfl] at d;injection d with d;exact ⟨by simpa using f, .inr (.inr (.inr (.inr (.inr (.inr (.inr (.inr (.inl ⟨Φ,j,h1,d.symm⟩))))))))⟩
        · rw [qi hk] at d
          exact kd1 id ob i d
    · rename_i kv r' h1 i
      cases f:ids.contains k with
      | false=>rw [f] at h;cases h
      | true=>
        rw [f] at h;simp only [qe,qc] at h;subst h;rw [kac] at d;by_cases hk:k=id
        · subst hk
          rw [qo rfl] at d;injection d with d;exact ⟨by simpa using f, .inr (.inr (.inr (.inr (.inr (.inr (.inr (.inr (.inr (.inl ⟨_,h1,d.symm,rfl⟩)))))))))⟩
        · rw [qi hk] at d
          exact kd1 id ob i d
    · rename_i kv r' h1 i
      cases f:ids.contains k with
      | false=>rw [f] at h;cases h
      | true=>
        rw [f] at h;simp only [qe,qc] at h;subst h;rw [kac] at d;by_cases hk:k=id
        · subst hk
          rw [qo rfl] at d;injection d with d;exact ⟨by simpa using f, .inr (.inr (.inr (.inr (.inr (.inr (.inr (.inr (.inr (.inl ⟨_,h1,d.symm,rfl⟩)))))))))⟩
        · rw [qi hk] at d
          exact kd1 id ob i d
    · rename_i m x y z r' h1 i
      cases f:(ids.contains k && ids.contains m) with
      | false=>rw [f] at h;cases h
      | true=>
        rw [f] at h;simp only [qe,qc] at h;subst h;rw [kac] at d;simp only [qp] at f;by_cases hk:k=id
        · subst hk
          rw [qo rfl] at d;injection d with d;exact ⟨by simpa using f.1, .inr (.inr (.inr (.inr (.inr (.inr (.inr (.inr (.inr (.inr ⟨m,x,y,z,h1,d.symm,f.2⟩)))))))))⟩
        · rw [qi hk] at d
          exact kd1 id ob i d
    · cases h
theorem kaij {st':St} {ts:List (Nat×C1)} {os:List (Nat×List C0)} (h:coSt st ids ts os=some st':=by kernel_rfl):LeSt st st':=by
  unfold coSt at h;split at h
  · rename_i tmps heap h1 y j
    injection h with h;subst h;intro F S0 N0 ψ S a w hs;refine ⟨ψ,S,hs.defers,hs.size,fun t=>?_,⟨fun id ob n=>?_,fun id id' o o' b n p q z=>?_,hs.core.lt,hs.core.s0,hs.core.n0,hs.core.fr⟩⟩
    · rcases kux t y with h | ⟨c,h,hk⟩
      · show RV ψ _ S w _ (look .any tmps t)
        rw [h];exact .any
      · show RV ψ _ S w _ (look .any tmps t)
        rw [h];exact (kpx _ (hs.tmps t)).sub1 hk
    · obtain ⟨f,r⟩:=kd1 id ob j n
      rcases r with ⟨l,e,cells,d,rfl,g⟩ | ⟨e,s,xs,d,rfl⟩ | ⟨cs,vs,d,rfl,g⟩ | ⟨ψ0,ids0,S0,w0,d,rfl,g⟩ | ⟨kv,d,rfl⟩ | ⟨_,_,_,_,_,d,rfl⟩ | ⟨_,d,rfl⟩ | ⟨_,_,d,rfl⟩ | ⟨_,_,d,rfl⟩ | ⟨kk,d,rfl,hx⟩ | ⟨m,_,_,_,d,rfl,g⟩
      · obtain ⟨_,⟨k0,b,cs,k1,k2,k3,k4,k5⟩,k6⟩:=hs.core.obj id _ d
        obtain ⟨z1,z2⟩:=kaa0 l k4 k5;exact ⟨f,⟨k0,b,cs,k1,k2,by rw [kz5];exact k3,z1,fun i v x hv hx=>(z2 i v x hv hx).sub1 (qr.1 g x (qn hx))⟩,k6⟩
      · obtain ⟨_,k,k6⟩:=hs.core.obj id _ d
        exact ⟨f,k,k6⟩
      · obtain ⟨_,⟨k0,k1,kn,k3⟩,k6⟩:=hs.core.obj id _ d
        exact ⟨f,⟨k0,k1,kn,fun i v x hv hx=>(k3 i v x hv hx).sub1 (qr.1 g x (qn hx))⟩,k6⟩
      · obtain ⟨_,⟨k0,k1,kn,k2,k3,k4,k5⟩,k6⟩:=hs.core.obj id _ d
        exact ⟨f,⟨k0,k1,kn,k2,fun i hi=>by simpa using qr.1 g i hi,k4,k5⟩,k6⟩
      · obtain ⟨_,k,k6⟩:=hs.core.obj id _ d
        exact ⟨f,k,k6⟩
      · obtain ⟨_,k,k6⟩:=hs.core.obj id _ d
        exact ⟨f,k,k6⟩
      · obtain ⟨_,k,k6⟩:=hs.core.obj id _ d
        exact ⟨f,k,k6⟩
      · obtain ⟨_,k,k6⟩:=hs.core.obj id _ d
        exact ⟨f,k,k6⟩
      · obtain ⟨_,⟨k0,b,es,cl,k1,k2,k3⟩,k6⟩:=hs.core.obj id _ d
        exact ⟨f,⟨k0,b,es,cl,k1,k2,k3.1,trivial⟩,k6⟩
      · obtain ⟨_,k,k6⟩:=hs.core.obj id _ d
        cases kk with
        | imap kv=>exact ⟨f,k,k6⟩
        | opq J=>exact ⟨f,k,k6⟩
        | _=>cases hx
      · obtain ⟨_,⟨k0,k1,b,bm,k2,k3,k4⟩,k6⟩:=hs.core.obj id _ d
        exact ⟨f,⟨k0,by simpa using g,b,bm,k2,k3,k4⟩,k6⟩
    · obtain ⟨_,r⟩:=kd1 id o j n
      obtain ⟨_,u⟩:=kd1 id' o' j p;have k1:∃ o,kaa st.heap id=some o:=(by rcases r with ⟨l,_,cells,d,_⟩ | ⟨e,s,xs,d,_⟩ | ⟨cs,vs,d,_⟩ | ⟨_,_,_,_,d,_⟩ | ⟨_,d,_⟩ | ⟨_,_,_,_,_,d,_⟩ | ⟨_,d,_⟩ | ⟨_,_,d,_⟩ | ⟨_,_,d,_⟩ | ⟨_,d,_⟩ | ⟨_,_,_,_,d,_⟩ <;> exact ⟨_,d⟩);have k2:∃ o,kaa st.heap id'=some o:=(by rcases u with ⟨l,_,cells,d,_⟩ | ⟨e,s,xs,d,_⟩ | ⟨cs,vs,d,_⟩ | ⟨_,_,_,_,d,_⟩ | ⟨_,d,_⟩ | ⟨_,_,_,_,_,d,_⟩ | ⟨_,d,_⟩ | ⟨_,_,d,_⟩ | ⟨_,_,d,_⟩ | ⟨_,d,_⟩ | ⟨_,_,_,_,d,_⟩ <;> exact ⟨_,d⟩);obtain ⟨o1,k1⟩:=k1;obtain ⟨o2,k2⟩:=k2;exact hs.core.inj id id' o1 o2 b k1 k2 q z
  · cases h
def ka9 (id:Nat):List (Nat×AObj)->List (Nat×AObj)
  | []=>[]
  | (k,v)::l=>bif Nat.beq k id then ka9 id l else (k,v)::ka9 id l
theorem kbe (id:Nat):∀ {l:List (Nat×AObj)} {k:Nat} {ob:AObj},kaa (ka9 id l) k=some ob->k≠id/\kaa l k=some ob
  | [],k,ob,h=>by cases h
  | (j,v)::l,k,ob,h=>by
    simp only [ka9] at h;cases a:Nat.beq j id with
    | true=>
      rw [a] at h;obtain rfl:=qk a;obtain ⟨h1,b⟩:=kbe j h;refine ⟨h1,?_⟩;rw [kac,qi (Ne.symm h1)];exact b
    | false=>
      rw [a] at h;simp only [qd,kac] at h;rw [kac];by_cases hk:j=k
      · subst hk
        rw [qo rfl] at h ⊢;exact ⟨(fun e=>by subst e;rw [Nat.beq_refl] at a;cases a),h⟩
      · rw [qi hk] at h ⊢
        exact kbe id h
theorem koh {id:Nat}:∀ {l:List (Nat×AObj)} {k:Nat} {ob:AObj},k≠id->kaa l k=some ob->kaa (ka9 id l) k=some ob
  | [],k,ob,_,h=>by cases h
  | (j,v)::l,k,ob,a,h=>by
    simp only [ka9];rw [kac] at h;by_cases b:j=k
    · subst b
      rw [qo rfl] at h;rw [Nat.beq_eq_false a];simp only [qd,kac];exact h
    · rw [qi b] at h
      have ih:=koh a h;cases c:Nat.beq j id with
      | true=>exact ih
      | false=>
        simp only [qd,kac];rw [qi b];exact ih
theorem km2 {heap:List (Nat×AObj)} {ids:List Nat} {id:Nat} {e:TypeId} {size:Nat} {xs:List FV} (h:Core F S0 N0 heap ids ψ S w) (G:kaa heap id=some (.frow e size xs)):
    Core F S0 N0 (ka9 id heap) ids ψ (fun b=>S b\/kak (ψ.val id)=some b) w/\RF (fun b=>S b\/kak (ψ.val id)=some b) w (ψ.val id) (.lst size xs.length xs):=by
  obtain ⟨I,n,t⟩:=h.obj id _ G;have p:=n;obtain ⟨h0,q,cs,d,z,hr⟩:=n;refine ⟨⟨fun k ob hk=>?_,fun k k' o o' b hk f l a B=>?_,fun b a=>?_,fun b a=>?_,h.n0,h.fr⟩,?_⟩
  · obtain ⟨l,hk⟩:=kbe id hk
    obtain ⟨h1,J,H⟩:=h.obj k ob hk;refine ⟨h1,J.keep Ext.refl (fun _ h=>h) (fun b a => .inl a) (fun _ _ _=>rfl) ⟨rfl,rfl⟩ (fun _ _=>rfl),fun b a=>⟨fun hs=>?_,(H b a).2⟩⟩;rcases hs with hs | hs
    · exact (H b a).1 hs
    · exact h.inj k id ob _ b hk G l a (.of hs)
  · obtain ⟨_,hk⟩:=kbe id hk
    obtain ⟨_,f⟩:=kbe id f;exact h.inj k k' o o' b hk f l a B
  · rcases a with a | a
    · exact h.lt b a
    · exact p.lt (.of a)
  · rcases a with a | a
    · exact h.s0 b a
    · exact (t b (.of a)).2.2
  · rcases d.2 with ⟨hv,C⟩ | ⟨g,cap,cur,hv,_,K,D,r,L,E⟩
    · have:xs=[]:=qa5 C
      subst this;rw [hv];exact .lst (A:=none) (cap:=0) (xs:=[]) (fun _=>[]) rfl (qx _) (by omega) q (fun i x hx=>by simp at hx) (fun i x hx=>by simp at hx) (fun i x j v y hx=>by simp at hx)
    · rw [hv]
      have s:∀ i x,xs[i]?=some x->(i+1)*size<=cs.length:=fun i x hx=>(by rw [d.1];exact qa4 _ (qg.1 hx).1);refine .lst (fun i=>(cs.drop (i*size)).take size) rfl D (by unfold maxLen at r;exact r) q (fun i x hx=>⟨g,0,rfl, .inr (by rfl),fun j u m=>?_⟩) (fun i x hx=>?_) fun i x j v y hx c hy=>?_
      · rw [qab] at m
        split at m
        · rw [qao,<- E,qab] at m
          split at m
          · simp only [World.cell?,K,Nat.zero_add]
            simpa using m
          · cases m
        · cases m
      · have:=s i x hx
        rw [qbc] at this;exact ⟨by rw [qaw,qa9];omega,z x (qn hx)⟩
      · rw [qab] at c
        split at c
        · rw [qao] at c
          exact (hr i x j v y hx c hy).mono fun _ h => .inl h
        · cases c
end Go.Proofs.YtjpkdegjcilndaaGreatDoor
set_option linter.all false
set_option linter.unusedSectionVars false
namespace Go.Proofs.YtjpkdegjcilndaaGreatDoor
open Go Go.RowKit
variable [Dr]
def PCall (P:Program) (f:FuncId) (args:List FV) (r:FV):Prop:=
  (∃ fn, P.funcs[f]? = some fn /\ fn.body.isNone = false /\ (fn.name == "runtime.NumGoroutine") = false) /\
  ∀ (S:Nat->Prop) (w:World) (vs:Array Value),vs.size=args.length->(∀ (i:Nat) (v:Value) (x:FV),vs[i]?=some v->args[i]?=some x->RF S w v x) ->
    Calls P f vs w fun e w'=>∃ v,e = .returned v/\RF (fun b=>S b\/w.heap.size<=b) w' v r/\Grow w w'
def k5y (st:St) (c:C1) (x:Operand):Option FV:=match co1 c (st.eval x) with
  | .fz y=>some y
  | _=>none
def kpk (st:St):List C1->List Operand->Option (List FV)
  | [],[]=>some []
  | c::cs,x::xs=>match k5y st c x,kpk st cs xs with
    | some y,some ys=>some (y::ys)
    | _,_=>none
  | _,_=>none
variable {P:Program} {F S0:Nat->Prop} {N0:Nat} {w w':World} {S S':Nat->Prop} {ψ:Env} {K:Nat->Prop} {T:List (TypeId×TD)} {o:Oper} {a:Act} {st:St} {t:TypeId} {d:TD}
theorem k47 {ids:List Nat} (h:∀ t,RV ψ (·∈ids) S w (a.tmps.getD t undef) (st.get t)):∀ {cs:List C1} {xs:List Operand} {ys:List FV},kpk st cs xs=some ys ->
    ys.length=xs.length/\∀ (i:Nat) (x:Operand) (y:FV),xs[i]?=some x->ys[i]?=some y->RF S w (a.eval x) y
  | [],[],ys,h=>by simp only [kpk,qc] at h;subst h;exact ⟨rfl,fun i x y h=>by simp at h⟩
  | c::cs,x::xs,ys,b=>by
    simp only [kpk] at b;split at b
    · rename_i y ys' h1 d
      injection b with b;subst b;obtain ⟨e1,e2⟩:=k47 h d;refine ⟨by simp [e1],fun i x' y' hx hy=>?_⟩;cases i with
      | zero=>
        simp at hx hy;subst hx hy;unfold k5y at h1;have hv:=kpx c (Sim.eval_tmps h x);split at h1
        · rename_i z e
          injection h1 with h1;subst h1;rw [e] at hv;exact hv.inv
        · cases h1
      | succ i=>exact e2 i x' y' (by simpa using hx) (by simpa using hy)
    · cases b
  | [],_::_,ys,h=>by cases h
  | _::_,[],ys,h=>by cases h
theorem k4t {f : FuncId} {args : Array Operand} {ts : Array TypeId} (e : o.op = .call { callee := .value (.func f), args := args, argTypes := ts }) (g : ∃ fn, P.funcs[f]? = some fn /\ fn.body.isNone = false /\ (fn.name == "runtime.NumGoroutine") = false) :
    (execOp a.eval o).run P w = .ok (.enter f (args.map a.eval)) w:=by
  obtain ⟨fn,h1,c,d⟩:=g;have b:fn.body≠none:=by intro h;rw [h] at c;cases c
  simp only [qar,ne_eq] at d;simp [execOp,e,resolve,Act.eval,Deferred.ofValue,invoke,callFunc,h1,b,d]
theorem k2u {f:FuncId} {args:Array Operand} {ts:Array TypeId} (cs:List C1) {ys:List FV} {r:FV} (b:o.op = .call { callee := .value (.func f),args:=args,argTypes:=ts }) (hc:kpk st cs args.toList=some ys) (hp:PCall P f ys r):NStep P o st (.fz r):=by
  intro ψ S a w ht d;obtain ⟨e1,e2⟩:=k47 ht hc;unfold ket;rw [k4t b hp.1];refine (hp.2 S w (args.map a.eval) (by simp [e1]) fun i v x hv hx=>?_).mono ?_
  · simp only [Array.getElem?_map,qt] at hv
    obtain ⟨y,hy,rfl⟩:=hv;exact e2 i y x (by simpa using hy) hx
  · rintro e w' ⟨v,rfl,h1,c⟩
    exact ⟨v,rfl,c, .fz h1⟩
def resX (T:List (TypeId×TD)) (st:St) (r:ResultVar) (c:C1):Option FV:=match r with
  | .tmp t=>match co1 c (st.get t) with
    | .fz y=>some y
    | _=>none
  | .cell x t=>match kad T t,knl st (st.get x) with
    | some d,some xs=>match km9 d xs with
      | some z=>match co1 c z with
        | .fz y=>some y
        | _=>none
      | none=>none
    | _,_=>none
def kyx (T:List (TypeId×TD)) (st:St):List ResultVar->List C1->Option (List FV)
  | [],[]=>some []
  | r::rs,c::cs=>match resX T st r c,kyx T st rs cs with
    | some y,some ys=>some (y::ys)
    | _,_=>none
  | _,_=>none
def kabq (T:List (TypeId×TD)) (st:St) (rs:List ResultVar) (cs:List C1):Option FV:=match kyx T st rs cs with
  | some [y]=>some y
  | some ys=>some (.tup ys)
  | none=>none
def retX (T:List (TypeId×TD)) (st:St) (rs:List ResultVar) (cs:List C1):Option FV:=match st.dfr with
  | []=>kabq T st rs cs
  | _=>none
theorem k71 {T:List (TypeId×TD)} {st:St} {rs:List ResultVar} {cs:List C1} {y:FV} (h:retX T st rs cs=some y):st.dfr=[]/\kabq T st rs cs=some y:=by
  unfold retX at h;split at h
  · rename_i hd;exact ⟨hd,h⟩
  · cases h
theorem kaak {v:Value} {x:AV} {xs:List AV} {c:AV} (hd:TdOk P t d) (hv:RV ψ (·∈st.ids) S w v x) (n:∀ id o,kaa st.heap id=some o->ObR ψ (·∈st.ids) S w id o) (hx:knl st x=some xs) (hc:km9 d xs=some c):
    ∃ ad u,v = .pointer (some ad)/\(loadVar t ad).run P w = .ok u w/\RV ψ (·∈st.ids) S w u c:=by
  obtain ⟨b,off,hv,cs,g,hl,h1,hr⟩:=kvf hv n hx;unfold km9 at hc;cases hk:d.kind.agg with
  | false=>
    rw [hk] at hc;simp only [qd] at hc;cases xs with
    | nil=>cases hc
    | cons y ys=>
      simp only [List.head?_cons,qc] at hc;subst hc;have h:cs[0]?=some (cs[0]'(by simp at hl;omega)):=qb _;have e:w.cell? ⟨b,off,none⟩=some (cs[0]'(by simp at hl;omega)):=(by simpa using g 0 _ h);exact ⟨_,cs[0]'(by simp at hl;omega),hv,by simp [loadVar,hd.isAgg,hk,e],hr 0 _ y h rfl⟩
  | true=>
    rw [hk] at hc;simp only [qe] at hc;cases f:Nat.ble d.size xs.length with
    | false=>rw [f] at hc;cases hc
    | true=>
      rw [f] at hc;simp only [qe,qc] at hc;subst hc;have m:=qs f;have k:(cs.take d.size).length=d.size:=(by rw [qaw];omega);have a:=run_loadCells_list (P:=P) w ⟨b,off,none⟩ (cs.take d.size) fun j v l=>by
        rw [qab] at l;split at l
        · rw [kb6];exact g j v l
        · cases l
      rw [k] at a;refine ⟨_, .agg (cs.take d.size).toArray,hv,by simp [loadVar,hd.isAgg,hk,hd.size,a],RV.aggA (by simp [hl]) (fun x hx=>h1 x (qbr hx)) fun i v x hv hx=>?_⟩;simp only [List.getElem?_toArray] at hv;rw [qab] at hv hx;split at hv
      · rename_i hi;rw [qo hi] at hx;exact hr i v x hv hx
      · cases hv
def kin (tmps:Array Value):ResultVar->Sem Value
  | .tmp t=>pure (tmps.getD t undef)
  | .cell x t=>do loadVar t (<- asAddr (tmps.getD x undef))
theorem k7o (f:TOk P T) (hs:Sim F S0 N0 st ψ S a w):∀ {rs:List ResultVar} {cs:List C1} {ys:List FV},kyx T st rs cs=some ys ->
    ∃ vs:List Value,(rs.mapM (kin a.tmps)).run P w = .ok vs w/\vs.length=ys.length/\∀ (i:Nat) (v:Value) (y:FV),vs[i]?=some v->ys[i]?=some y->RF S w v y
  | [],[],ys,h=>by simp only [kyx,qc] at h;subst h;exact ⟨[],by simp,rfl,fun i v y h=>by simp at h⟩
  | r::rs,c::cs,ys,h=>by
    simp only [kyx] at h;split at h
    · rename_i y ys' h1 g
      injection h with h;subst h;obtain ⟨vs,k1,k2,k3⟩:=k7o f hs g;have key:∃ v,(kin a.tmps r).run P w = .ok v w/\RF S w v y:=by
        unfold resX at h1;split at h1
        · rename_i t
          have hv:=kpx c (hs.tmps t);split at h1
          · rename_i z b
            injection h1 with h1;subst h1;rw [b] at hv;exact ⟨_,rfl,hv.inv⟩
          · cases h1
        · rename_i x t
          split at h1
          · rename_i d xs hd hx
            split at h1
            · rename_i z b
              obtain ⟨ad,u,e1,e2,e3⟩:=kaak (f.get hd) (hs.tmps x) (fun id o j=>(hs.core.obj id o j).2.1) hx b;have hv:=kpx c e3;split at h1
              · rename_i z' e
                injection h1 with h1;subst h1;rw [e] at hv;refine ⟨u,?_,hv.inv⟩;simp only [kin,e1,asAddr,Sem.run_bind,Sem.run_pure,Result.andThen_ok,e2]
              · cases h1
            · cases h1
          · cases h1
      obtain ⟨v,e1,e2⟩:=key;refine ⟨v::vs,?_,by simp [k2],fun i v' y' hv hy=>?_⟩
      · rw [List.mapM_cons]
        simp only [Sem.run_bind,e1,Result.andThen_ok,k1,Sem.run_pure]
      · cases i with
        | zero=>simp at hv hy;subst hv hy;exact e2
        | succ i=>exact k3 i v' y' (by simpa using hv) (by simpa using hy)
    · cases h
  | [],_::_,ys,h=>by cases h
  | _::_,[],ys,h=>by cases h
theorem kakk (d:TOk P T) (hs:Sim F S0 N0 st ψ S a w) {fn:Func} {cs:List C1} {y:FV} (h:retX T st fn.results.toList cs=some y):∃ v,(results fn a.tmps).run P w = .ok v w/\RF S w v y:=by
  replace h:=(k71 h).2;unfold kabq at h;have key:∀ ys,kyx T st fn.results.toList cs=some ys->∃ vs:List Value,(results fn a.tmps).run P w = .ok (if h:vs.length=1 then vs[0] else .tuple vs.toArray) w/\vs.length=ys.length/\∀ (i:Nat) (v:Value) (y:FV),vs[i]?=some v->ys[i]?=some y->RF S w v y:=fun ys hy=>by obtain ⟨vs,k1,k2,k3⟩:=k7o d hs hy;refine ⟨vs,?_,k2,k3⟩;unfold results;rw [Array.mapM_eq_mapM_toList];have b:∀ (g:ResultVar->Sem Value),(∀ x,g x=kin a.tmps x)->(fn.results.toList.mapM g).run P w = .ok vs w:=fun g b=>(by rw [show g=kin a.tmps from funext b];exact k1);simp only [Sem.run_bind,Sem.run_map];rw [b _ fun x=>by cases x <;> rfl];simp only [Result.andThen_ok,Sem.run_pure];simp
  split at h
  · rename_i z e
    injection h with h;subst h;obtain ⟨vs,k1,k2,k3⟩:=key _ e;have hl:vs.length=1:=(by simpa using k2);rw [dif_pos hl] at k1;exact ⟨_,k1,k3 0 _ _ (qb (by omega)) rfl⟩
  · rename_i ys c hy
    injection h with h;subst h;obtain ⟨vs,k1,k2,k3⟩:=key _ hy;have hl:¬ vs.length=1:=fun hl=>(by rw [k2] at hl;obtain ⟨z,rfl⟩:=List.length_eq_one_iff.1 hl;exact c z rfl);rw [dif_neg hl] at k1;exact ⟨_,k1, .tup (by simpa using k2) fun i v x hv hx=>k3 i v x (by simpa using hv) hx⟩
  · cases h
def kqa:Nat->List FV->List (Nat×AV)
  | _,[]=>[]
  | i,x::l=>(i, .fz x)::kqa (i+1) l
def retQ (T:List (TypeId×TD)) (rs:List ResultVar) (cs:List C1) (r:FV):Exit->St->Prop
  | .normal,st=>retX T st rs cs=some r
  | .ret,st=>retX T st rs cs=some r
  | _,_=>False
theorem k1x:∀ (l:List FV) (i t:Nat),(look .any (kqa i l) t = .any)\/∃ x,i<=t/\l[t - i]?=some x/\look .any (kqa i l) t = .fz x
  | [],i,t => .inl rfl
  | x::l,i,t=>by
    simp only [kqa,kat];by_cases h:i=t
    · subst h
      exact .inr ⟨x,qx _,by simp,by simp⟩
    · rw [qi h]
      rcases k1x l (i+1) t with h1 | ⟨y,h1,a,b⟩
      · exact .inl h1
      · exact .inr ⟨y,by omega,by rw [show t - i=(t - (i+1))+1 by omega];simpa using a,b⟩
theorem k81 (s : TOk P T) {f : FuncId} {fn : Func} {c : Code} {args : List FV} {r : FV} (cs : List C1) (q : P.funcs[f]? = some fn) (a : fn.body = some c) (hn : (fn.name == "runtime.NumGoroutine") = false) (j : Nat.ble args.length fn.ntmps = true)
    (h:awp P c { n:=fn.ntmps,tmps:=kqa 0 args,heap:=[],ids:=[] } (retQ T fn.results.toList cs r)):PCall P f args r:=by
  have j:=qs j;refine ⟨⟨fn,q,by rw [a];rfl,hn⟩,fun S w vs hs hr=>calls_of_wp q a (wp_wide.1 ?_)⟩;have l:Sim (fun b=>b<w.heap.size) S w.heap.size { n:=fn.ntmps,tmps:=kqa 0 args,heap:=[],ids:=[] } ⟨fun _=>0,fun _=>undef⟩ (fun b=>S b/\b<w.heap.size) { tmps:=vs++Array.replicate (fn.ntmps - vs.size) undef,defers:=[] } w:=by
    refine ⟨rfl,by simp;omega,fun t=>?_,⟨(fun id o p=>nomatch p),(fun id id' o o' b p=>nomatch p),fun b a=>a.2,fun b a => .inl a.1,qx _,fun b a=>a⟩⟩;show RV _ _ _ w _ (look .any (kqa 0 args) t);rcases k1x args 0 t with h | ⟨x,_,h1,m⟩
    · rw [h];exact .any
    · rw [m]
      have d:t<vs.size:=(by rw [hs];have:=(qg.1 h1).1;omega);have:(vs++Array.replicate (fn.ntmps - vs.size) undef).getD t undef=vs[t]:=(by rw [qam,qa7 d];simp [d]);rw [this];exact .fz (hr t _ x (by simp [d]) (by simpa using h1)).bound
  refine kco (h _ _ _ _ _ _ w l) ?_;rintro e a' w' ⟨st',ψ',S',g,m,i⟩;have fin:retX T st' fn.results.toList cs=some r->a'.defers=[]/\∃ v,(results fn a'.tmps).run P w' = .ok v w'/\∃ v',Ending.returned v = .returned v'/\RF (fun b=>S b\/w.heap.size<=b) w' v' r/\Grow w w':=fun g=>by obtain ⟨v,e1,e2⟩:=kakk s m g;exact ⟨m.defers.trans (k71 g).1,v,e1,v,rfl,e2.mono m.core.s0,⟨⟨i.os,i.tape,i.output,i.size,fun k hk=>i.block k hk⟩,i.drawn⟩⟩
  cases e with
  | normal=>exact fin g
  | ret=>exact fin g
  | _=>exact g.elim
end Go.Proofs.YtjpkdegjcilndaaGreatDoor
set_option linter.all false
namespace Go.Proofs.YtjpkdegjcilndaaGreatDoor
open Go Go.RowKit
variable [Dr]
def hadd (fs:List (Nat×Option Nat×AV)) (p:Nat->Bool) (base:List (Nat×AV)):List (Nat×AV):=match fs with
  | []=>base
  | (j,some d,c)::l=>(d,bif p j then c else .any)::hadd l p base
  | (_,none,_)::l=>hadd l p base
def hst (st:St) (fs:List (Nat×Option Nat×AV)) (p:Nat->Bool):St:={ st with tmps:=hadd fs p st.tmps }
variable {P:Program} {F S0:Nat->Prop} {N0:Nat} {w w':World} {S S':Nat->Prop} {ψ:Env} {K:Nat->Prop} {o:Oper} {a:Act} {st:St}
theorem k2s (st:St) {ops:Array Oper} {g:Bool} (hs:∀ t,RV ψ K S w (a.tmps.getD t undef) (st.get t)) (h:kbp ops st o=some g):Region.wanted o (yielded ops a.tmps)=g:=by
  unfold kbp at h;unfold Region.wanted;split at h
  · rename_i e
    rw [e];injection h
  · rename_i j want e
    rw [e];split at h
    · rename_i t ht
      have hv:=hs t;split at h
      · rename_i b f
        rw [f] at hv;injection h with h;subst h;have c:a.tmps.getD t undef = .bool b:=hv.atom;rw [qam] at c;have d:a.tmps[t]?=some (.bool b):=by
          cases d:a.tmps[t]? with
          | none=>rw [d] at c;cases c
          | some u=>rw [d] at c;simp only [qbj] at c;rw [c]
        simp only [yielded,ht,qa,d];cases b <;> cases want <;> rfl
      · rename_i xs f
        rw [f] at hv;injection h with h;subst h;exact kzl hv.inv ht
      · cases h
    · cases h
theorem kot {a:Act} (d:Option Nat) {v:Value} (n t:Nat) (hn:a.tmps.size=n) (hd:∀ t,d=some t->t<n):(a.put d v).tmps.getD t undef=if d=some t then v else a.tmps.getD t undef:=by
  cases d with
  | none=>simp [Act.put]
  | some d=>
    have b:=hd d rfl;by_cases h:d=t
    · subst h
      simp [Act.put,hn,b]
    · rw [qi (by simpa using h)]
      simp only [Act.put];rw [qam,Array.getElem?_setIfInBounds_ne h,<- qam]
end Go.Proofs.YtjpkdegjcilndaaGreatDoor
set_option linter.all false
namespace Go.Proofs.YtjpkdegjcilndaaGreatDoor
open Go Go.RowKit
variable [Dr]
abbrev w64 (n:Int):Int:=IntKind.i64.wrap n
abbrev wu8 (n:Int):Int:=IntKind.u8.wrap n
def eB (b:Bool):FV := .atom (.bool b)
def eS (s:BA):FV := .atom (.string s)
def eI (n:Int):FV := .atom (.int .i64 n)
def eU8 (n:Int):FV := .atom (.int .u8 n)
def eL {α:Type} (size:Nat) (e:α->FV) (xs:List α):FV := .lst size xs.length (xs.map e)
def idx {α:Type} (xs:List α) (i:Int):Option α:=if 0<=i then xs[i.toNat]? else none
def byt (s:BA) (i:Int):Option Int:=if 0<=i then (s[i.toNat]?).map fun c=>(c.toNat:Int) else none
def app {α:Type} (bytes:Nat) (xs ys:List α):Option (List α):=if (xs.length+ys.length)*(bytes+1)<=140737488355328 then some (xs++ys) else none
def cat (s u:BA):Option BA:=if s.size+u.size<=9223372036854775807 then some (s++u) else none
variable {P:Program} {T:List (TypeId×TD)} {o:Oper} {st:St} {t:TypeId} {d:TD}
theorem kvm {α:Type} {xs:List α} {i:Int} {x:α} (h:idx xs i=some x):0<=i/\xs[i.toNat]?=some x:=by
  unfold idx at h;split at h
  · exact ⟨by assumption,h⟩
  · cases h
theorem kajf {α:Type} (enc:α->FV) {xs:List α} {i:Int} {x:α} {X Y:Operand} {e:TypeId} {de:TD} {k:IntKind} {cs:List FV} (h:idx xs i=some x) (c:TOk P T) (f:o.op = .indexAddr t X Y) (hd:kad T t=some d) (hk:d.kind = .slice e) (b:kad T e=some de) (hx:kn6 (st.eval X)=some (xs.map enc)) (a:∀ x,(enc x).cells.length=de.size) (hy:st.eval Y = .fz (.atom (.int k i))) (hc:(enc x).cells=cs):NStep P o st (.fz (.fp cs)):=by
  obtain ⟨h0,h1⟩:=kvm h;refine k98 f (c.get hd) hk (c.get b) hx (fun z g=>?_) hy h0 (z:=enc x) (by rw [qq,h1];rfl) hc;obtain ⟨y,_,rfl⟩:=qas.1 g;exact a y
theorem kanj {s:BA} {i c:Int} {X Y:Operand} {k:IntKind} (h:byt s i=some c) (a:TOk P T) (e:o.op = .index t X Y) (hd:kad T t=some d) (hk:d.kind = .str) (hx:st.eval X = .fz (.atom (.string s))) (hy:st.eval Y = .fz (.atom (.int k i))):
    NStep P o st (.fz (.atom (.int .u8 c))):=by
  unfold byt at h;split at h
  · rename_i h0
    simp only [qt] at h;obtain ⟨b,f,rfl⟩:=h;exact kaew e (a.get hd) hk hx hy h0 f
  · cases h
theorem kait (s u:BA) {r:BA} (X Y:Operand) (yt:TypeId) (h:cat s u=some r) (a:o.op = .binOp .add t X Y yt:=by kernel_rfl) (hx:st.eval X = .fz (.atom (.string s)):=by kernel_rfl) (hy:st.eval Y = .fz (.atom (.string u)):=by kernel_rfl):NStep P o st (.fz (.atom (.string r))):=by
  unfold cat at h;split at h
  · injection h with h
    subst h;exact kahq a hx hy (by assumption)
  · cases h
theorem kaht {α:Type} {bytes:Nat} {xs ys r:List α} (h:app bytes xs ys=some r):r=xs++ys/\(xs.length+ys.length)*(bytes+1)<=140737488355328:=by
  unfold app at h;split at h
  · injection h with h;exact ⟨h.symm,by assumption⟩
  · cases h
theorem k6w {α:Type} (enc:α->FV) {bytes:Nat} {xs ys r:List α} {X Y:Operand} {e:TypeId} {de:TD} {n m id:Nat} (h:app bytes xs ys=some r) (i:TOk P T) (j:o.op = .call { callee := .builtin .append,args:=#[X,Y],argTypes:=#[t,t] }) (hd:kad T t=some d) (hk:d.kind = .slice e) (b:kad T e=some de) (k:Nat.ble 1 de.size=true) (c:de.zero.length=de.size) (f:de.bytes=bytes) (hx:st.eval X = .row id n) (g:kaa st.heap id=some (.frow e de.size (xs.map enc))) (hn:n=xs.length) (hy:st.eval Y = .fz (.lst de.size m (ys.map enc))\/st.eval Y = .lim de.size m (ys.map enc)):
    StepA P o st (.row id r.length) ((id, .frow e de.size (r.map enc))::st.heap) st.ids:=by
  obtain ⟨rfl,a⟩:=kaht h;subst f;have:=kagg (id:=id) (d:=d) (t:=t) (st:=st) (o:=o) (P:=P) (xs.map enc) (ys.map enc) j (i.get hd) hk (i.get b) (qs k) c hx g (by rw [hn];simp) hy (by simpa using a);rw [<- qb0,qaa] at this;exact this
theorem kib (t id n:Nat) (e:TypeId) (size:Nat) (xs:List FV) (hx:st.get t = .row id n:=by kernel_rfl) (d:kaa st.heap id=some (.frow e size xs):=by kernel_rfl) (hn:n=xs.length:=by simp):
    LeSt st { st with tmps:=(t, .fz (.lst size n xs))::st.tmps,heap:=ka9 id st.heap }:=by
  subst hn;intro F S0 N0 ψ S a w hs;obtain ⟨c1,c2⟩:=km2 hs.core d;have c:∀ k,RV ψ (·∈st.ids) (fun b=>S b\/kak (ψ.val id)=some b) w (a.tmps.getD k undef) (st.get k):=fun k=>(hs.tmps k).mono (fun _ h=>h) fun _ h => .inl h;refine ⟨ψ,_,hs.defers,hs.size,fun k=>?_,c1⟩;simp only [St.get,kat];split
  · rename_i hk
    subst hk;have hv:=c t;rw [hx] at hv;have h0:=(hs.core.obj id _ d).2.1.1;refine .fz ?_;generalize a.tmps.getD t undef=u at hv;cases hv with
    | row hK f h1 hv=>rw [hv (by rw [h0])];exact c2
  · exact c k
theorem kfv (id2 id n j:Nat) (e:TypeId) (size:Nat) (xs:List FV) (e2:TypeId) (cells:List AV) (d:kaa st.heap id2=some (.box e2 cells):=by kernel_rfl) (hx:cells[j]?=some (.row id n):=by kernel_rfl) (l:kaa st.heap id=some (.frow e size xs):=by kernel_rfl) (hn:n=xs.length:=by simp):
    LeSt st { st with heap:=(id2, .box e2 (cells.set j (.fz (.lst size n xs))))::ka9 id st.heap }:=by
  subst hn;intro F S0 N0 ψ S a w hs;obtain ⟨c1,c2⟩:=km2 hs.core l;have q:id2≠id:=fun h=>by rw [h,l] at d;cases d
  have p:kaa (ka9 id st.heap) id2=some (.box e2 cells):=koh q d;obtain ⟨k1,⟨k0,b,cs,k2,k3,k4,k5,k6⟩,k7⟩:=c1.obj id2 _ p;refine ⟨ψ,_,hs.defers,hs.size,fun k=>(hs.tmps k).mono (fun _ h=>h) fun _ h => .inl h,⟨fun i o g=>?_,fun i i' o o' b g r m u=>?_,c1.lt,c1.s0,c1.n0,c1.fr⟩⟩
  · rw [kac] at g
    by_cases hi:id2=i
    · subst hi
      rw [qo rfl] at g;injection g with g;subst g;refine ⟨k1,⟨k0,b,cs,k2,k3,by simpa using k4,fun x hx=>?_,fun i v x hv c=>?_⟩,k7⟩
      · rcases List.mem_or_eq_of_mem_set hx with hx | rfl
        · exact k5 x hx
        · rfl
      · rw [List.getElem?_set] at c
        split at c
        · rename_i s
          subst s;split at c
          · injection c with c
            subst c;have t:=k6 j v _ hv hx;have h0:=(hs.core.obj id _ l).2.1.1;refine .fz ?_;cases t with
            | row hK y h1 hv=>rw [hv (by rw [h0])];exact c2
          · cases c
        · exact k6 i v x hv c
    · rw [qi hi] at g
      exact c1.obj i o g
  · have f:∀ {i:Nat} {o:AObj},kaa ((id2,AObj.box e2 (cells.set j (.fz (.lst size xs.length xs))))::ka9 id st.heap) i=some o->∃ o',kaa (ka9 id st.heap) i=some o':=fun {i o} h=>by
      rw [kac] at h;by_cases hi:id2=i
      · subst hi;exact ⟨_,p⟩
      · rw [qi hi] at h;exact ⟨_,h⟩
    obtain ⟨o1,h1⟩:=f g;obtain ⟨o2,p⟩:=f r;exact c1.inj i i' o1 o2 b h1 p m u
theorem kgq (e e2:TypeId) (size id2 j id:Nat) (cells:List AV) (u:Nat.ble 1 size=true:=by kernel_rfl) (l:kaa st.heap id2=some (.box e2 cells):=by kernel_rfl) (hx:cells[j]?=some (.fz (.atom (.slice none 0 0))):=by kernel_rfl) (d:st.ids.contains id=false:=by kernel_rfl):
    LeSt st { st with heap:=(id2, .box e2 (cells.set j (.row id 0)))::(id, .frow e size [])::st.heap,ids:=id::st.ids }:=by
  have d:id∉st.ids:=by simpa using d
  intro F S0 N0 ψ S a w hs;have hadd:=hs.core.add (n:=0) (v := .slice none 0 0) (w':=w) (ob := .frow e size []) (kaf _) d (fun b q=>by cases q) ⟨kbf _ _,qs u,[],by rw [kai];exact ⟨by simp, .inl ⟨rfl,rfl⟩⟩,(fun x hx=>by cases hx),fun i x j v y h=>by simp at h⟩;have r:id≠id2:=fun h=>d (by rw [h];exact (hs.core.obj id2 _ l).1);have p:kaa ((id, .frow e size [])::st.heap) id2=some (.box e2 cells):=by rw [kac,qi r];exact l
  obtain ⟨k1,⟨k0,b,cs,k2,k3,k4,k5,k6⟩,k7⟩:=hadd.obj id2 _ p;refine ⟨ψ.set id 0 (.slice none 0 0),S,hs.defers,hs.size,fun k=>(hs.tmps k).keep (ka8 d _ _) (fun _ h=>qh _ h) (fun _ h=>h) (fun _ _ _=>rfl),⟨fun i o g=>?_,fun i i' o o' b g s m q=>?_,hadd.lt,hadd.s0,hadd.n0,hadd.fr⟩⟩
  · rw [kac] at g
    by_cases hi:id2=i
    · subst hi
      rw [qo rfl] at g;injection g with g;subst g;refine ⟨k1,⟨k0,b,cs,k2,k3,by simpa using k4,fun x hx=>?_,fun i v x hv c=>?_⟩,k7⟩
      · rcases List.mem_or_eq_of_mem_set hx with hx | rfl
        · exact k5 x hx
        · rfl
      · rw [List.getElem?_set] at c
        split at c
        · rename_i t
          subst t;split at c
          · injection c with c
            subst c;rw [(k6 j v _ hv hx).atom];exact .row (qu ..) (qaj _) rfl fun _=>(kai _ _).symm
          · cases c
        · exact k6 i v x hv c
    · rw [qi hi] at g
      exact hadd.obj i o g
  · have f:∀ {i:Nat} {o:AObj},kaa ((id2,AObj.box e2 (cells.set j (.row id 0)))::(id, .frow e size [])::st.heap) i=some o->∃ o',kaa ((id, .frow e size [])::st.heap) i=some o':=fun {i o} h=>by
      rw [kac] at h;by_cases hi:id2=i
      · subst hi;exact ⟨_,p⟩
      · rw [qi hi] at h;exact ⟨_,h⟩
    obtain ⟨o1,h1⟩:=f g;obtain ⟨o2,p⟩:=f s;exact hadd.inj i i' o1 o2 b h1 p m q
theorem LeSt.refl:LeSt st st:=fun F S0 N0 ψ S a w h=>⟨ψ,S,h⟩
theorem LeSt.trans {st' st'':St} (h:LeSt st st') (k:LeSt st' st''):LeSt st st'':=fun F S0 N0 ψ S a w hs=>by obtain ⟨ψ',S',b⟩:=h F S0 N0 ψ S a w hs;exact k F S0 N0 ψ' S' a w b
theorem NStep.eqv {c c':AV} (h:NStep P o st c) (e:c=c'):NStep P o st c':=e ▸ h
theorem kvt [Rd] {c:Code} {Q:Exit->St->Prop} (h:awp P c st fun e st'=>∃ st2,LeSt st' st2/\Q e st2):awp P c st Q:=fun F S0 N0 ψ S a w hs=>
  kco (h F S0 N0 ψ S a w hs) fun e a' w' ⟨st',ψ',S',⟨st2,h0,h1⟩,b,d⟩=>by obtain ⟨ψ2,S2,f⟩:=h0 F S0 N0 ψ' S' a' w' b;exact ⟨st2,ψ2,S2,h1,f,d⟩
theorem k6m [Rd] {c:Code} {Qa Q:Exit->St->Prop} (ha:awp P c st Qa) (a:∀ e st',Qa e st'->∃ st2,LeSt st' st2/\Q e st2):awp P c st Q:=kvt (kv5 ha a)
theorem kah6 (t:Nat) (x y:AV) (h:x=y) (hx:st.get t=x:=by kernel_rfl):LeSt st (st.put (some t) y):=by
  subst h;intro F S0 N0 ψ S a w hs;refine ⟨ψ,S,hs.defers,hs.size,fun k=>?_,hs.core⟩;simp only [St.put,St.get,kat];split
  · rename_i hk;subst hk;rw [<- hx];exact hs.tmps t
  · exact hs.tmps k
theorem kacy [Rd] {σ β:Type} {step:σ->Option (σ ⊕ β)} (body:Code) (stOf:σ->St) {s0:σ} {b:β} {n:Nat} (Qb:β->Exit->St->Prop) (hl:kab step n s0=some b) (h0:LeSt st (stOf s0)) (hr:∀ s r,step s=some r->awp P body (stOf s) fun e st=>match r with | .inl s'=>e = .normal/\LeSt st (stOf s') | .inr b'=>(e ≠ .normal/\e ≠ .outgrown)/\Qb b' e st):awp P (.loop body) st (Qb b):=by
  exact kahb stOf hl h0 (fun s s' hs=>hr s _ hs) fun s hs=>kv5 (hr s _ hs) fun e st h=>⟨h.1.1,h.1.2,h.2⟩
end Go.Proofs.YtjpkdegjcilndaaGreatDoor
set_option linter.all false
namespace Go.Proofs.YtjpkdegjcilndaaGreatDoor
open Go Go.RowKit Go.ChangeShapes Go.WideShapes Go.ChangeAt
theorem kaf9:ownKnob Tryz.prog.godebug=none:=by kernel_rfl
theorem kahi:laidOutB Tryz.prog=true:=by kernel_rfl
variable {H:Type} {enc:TypeId×Value->H} {P:Program}
theorem kwh (hl:laidOutB P=true) {W W':World} {sp:Nat->Bool} (c:RowKit.Below W.heap.size W W'):∀ {ts:List TypeId} {vs:List Value} {ds:List (DataW H)} {ps:List MemPlace},
    (∀ t∈ts,P.readableRec t=true/\t<P.types.size)->DataW.TrodAll enc P W 0 (fun _=>true) true ts vs ds ps->(∀ x∈ps,x.block<W.heap.size)->(∀ x∈ps,sp x.block=true)->DataW.TrodAll enc P W' 0 sp true ts vs ds ps
  | [],vs,ds,ps,_,h,_,_=>by obtain ⟨rfl,rfl,rfl⟩:=trodAll_nil h;exact trodAll_mk0
  | t::ts,vs,ds,ps,ht,h,a,b=>by
    obtain ⟨v,vs',d,ds',p,q,rfl,rfl,rfl,h0,h1⟩:=trodAll_cons h;exact trodAll_cons_mk (WideElems.Trod_stays hl (ht t (by simp)).1 (ht t (by simp)).2 h0 (fun x hx=>c.same (a x (by simp [hx]))) (fun x hx=>b x (by simp [hx])))
      (kwh hl c (fun t' e=>ht t' (by simp [e])) h1 (fun x hx=>a x (by simp [hx])) (fun x hx=>b x (by simp [hx])))
theorem kahc {f:Func} {s:ChangeSpec} {W W':World} {args:Array Value} {ds gs:List (DataW H)} {before:List MemPlace} {tb:TypeId}
    (hl:laidOutB P=true) (j:∀ t∈f.params.toList,P.readableRec t=true/\t<P.types.size) (a:s.vars=[]) (v:P.underlying tb=some .bool) (hr:f.resultTypes=#[tb])
    (c:s.fn H (ds++gs)={ results:=[.lit (.bool true)],args:=ds })
    (o:DataW.Whole enc P f.params.toList s.vars false W args.toList ds gs before) (r:RowKit.Below W.heap.size W W'):
    s.post enc P f false true false false W args (.bool true) W':=by
  have d:=o;obtain ⟨p,q,hA,u,rfl,w,hn⟩:=o;have k:DataW.TrodVars enc P W (fun _=>true) [] gs q:=by rw [a] at u;exact u
  obtain ⟨rfl,rfl⟩:=trodVars_none k;have e:∀ x∈p,x.block<W.heap.size:=fun x hx=>d.lt x (by simpa using hx);have l:∀ sp:Nat->Bool,(∀ x∈p,sp x.block=true)->DataW.TrodAll enc P W' 0 sp true f.params.toList args.toList (s.fn H (ds++[])).args p:=fun sp m=>by rw [c];exact kwh hl r j hA e m
  have n:∀ sp:Nat->Bool,DataW.TrodVars enc P W' sp s.vars (s.fn H (ds++[])).vars []:=fun sp=>by rw [a,c];rfl
  have g:∀ x∈p,(fun b=>decide (b<W.heap.size)) x.block=true:=fun x hx=>by simpa using e x hx
  have i:∀ (b:Nat) (sp:Nat->Bool) (hd:Bool),DataW.TrodAll enc P W' b sp hd f.resultTypes.toList ((Value.bool true).resultList f.resultTypes.size) (s.fn H (ds++[])).results []:=fun b sp hd=>by rw [c,hr];exact trodAll_cons_mk (shut_bool v true) trodAll_mk0
  refine ⟨ds,[],p++[],[],p,[],d,i _ _ _,l _ g,n _,World.keptBut_mono (fun x hx=>⟨hx,?_⟩) (r.frame (·∈p++[])),fun h=>by cases h⟩;simp at hx ⊢;exact hx
variable {w:World} {base:Nat} {spare:Nat->Bool} {held:Bool}
theorem kaas {T:Type} {Q:Nat->T->Prop}:∀ n:Nat,(∀ i,i<n->∃ z,Q i z)->∃ xs:List T,xs.length=n/\∀ (i:Nat) (z:T),xs[i]?=some z->Q i z
  | 0,_=>⟨[],rfl,fun i z h=>by simp at h⟩
  | n+1,h=>by
    obtain ⟨xs,hl,a⟩:=kaas (Q:=Q) n fun i hi=>h i (by omega);obtain ⟨z,b⟩:=h n (by omega);refine ⟨xs++[z],by simp [hl],fun i y hy=>?_⟩;by_cases hi:i<n
    · rw [qad (by omega)] at hy;exact a i y hy
    · rw [qae (by omega)] at hy
      have:i=n:=(by have:=(qg.1 hy).1;simp at this;omega);subst this;simp [hl] at hy;subst hy;exact b
theorem kuf {T:Type} (R:List Value->T->Prop) {t e:TypeId} (size:Nat) {fuel:Nat} {cs:List Value} {x:DataW H×List MemPlace} (ht:P.underlying t=some (.slice e)) (C:P.cellsOf e=size) (h:DataW.trod enc P w base spare held fuel t cs=some x) (p:∀ n cs' y,n<fuel->DataW.trod enc P w base spare held n e cs'=some y->∃ z,R cs' z) (d:0<size:=by omega):
    ∃ v xs,cs=[v]/\RepSl Any w size R v xs:=by
  rcases DataW.trod_slice ht h with ⟨rfl,_⟩ | ⟨a,len,cap,elems,rest,n,D,rfl,_,_,E,f,A,g,_⟩
  · exact ⟨_,[],rfl,RepSl.nil (by omega)⟩
  · have each:∀ i,i<len->∃ cs' z,R cs' z/\cs'.length=size/\∀ j,j<size->w.cell? ((a.add (i*size)).add j)=cs'[j]?:=fun i hi=>by have h1:=g i hi;have q:elems[i]?=some elems[i]:=qb (by omega);rw [q,C] at h1;obtain ⟨cs',hc,r⟩:=ql.1 h1;obtain ⟨_,hl,c⟩:=World.cells?_some hc;obtain ⟨z,m⟩:=p n cs' _ (by omega) r;exact ⟨cs',z,m,hl,c⟩
    obtain ⟨xs,s,hx⟩:=kaas (Q:=fun i z=>∃ cs',R cs' z/\cs'.length=size/\∀ j,j<size->w.cell? ((a.add (i*size)).add j)=cs'[j]?) len (fun i hi=>by obtain ⟨cs',z,h⟩:=each i hi;exact ⟨z,cs',h⟩);refine ⟨_,xs,rfl,some a,cap,by rw [s],by omega,by unfold maxLen at f;exact f,fun i z m=>?_⟩;obtain ⟨cs',hr,hl,c⟩:=hx i z m;have k:a.spot=none:=by
      have h0:0<xs.length:=(by have:=(qg.1 m).1;omega);obtain ⟨cs0,_,F,l⟩:=hx 0 _ (qb h0);have h1:=l 0 d;simp only [Nat.zero_mul,Addr.add,if_true] at h1;rw [qb (by omega)] at h1;unfold World.cell? at h1;split at h1
      · split at h1
        · cases h1
        · rename_i hs;simpa using hs
      · cases h1
    obtain ⟨b,o,sp⟩:=a;simp only at k;subst k;refine ⟨b,o,cs',rfl,trivial,fun j u B=>?_,hl,hr⟩;have G:j<size:=(by have:=(qg.1 B).1;omega);rw [<- B,<- c j G];congr 1;unfold Addr.add;by_cases h1:i*size=0 <;> by_cases q:j=0 <;> simp [h1,q,Nat.add_assoc]
variable [Dr]
inductive Va where
  | mk (type num:Int) (text:BA) (items:List Va)
namespace Va
def type:Va->Int | mk t _ _ _=>t
def num:Va->Int | mk _ n _ _=>n
def text:Va->BA | mk _ _ s _=>s
def items:Va->List Va | mk _ _ _ l=>l
theorem ind {P:Va->Prop} (h:∀ t n s l,(∀ v∈l,P v)->P (mk t n s l)) (v:Va):P v:=
  Va.rec (motive_1:=P) (motive_2:=fun l=>∀ t∈l,P t) (fun t n s l ih=>h t n s l ih) (fun _ h=>nomatch h)
    (fun t l h1 a x hx=>(qac.1 hx).elim (fun e=>e ▸ h1) (a x)) v
end Va
structure Sy where
  name:BA
  type:Int
structure Ru where
  symbol:Int
  kind:Int
  input:Int
  const:Va
  op:BA
  args:List Int
structure La where
  name:BA
  inputs:List Int
  symbols:List Sy
  rules:List Ru
def kut (s:BA):Prop:=s.size<=9223372036854775807
section
variable {S S':Nat->Prop} {w w':World}
inductive RepVa (S:Nat->Prop) (w:World):List Value->Va->Prop where
  | mk (t n:Int) (s:BA) (kids:List Va) (A:Option Addr) (cap:Nat) (css:Nat->List Value) (ht:khs t) (hn:khs n) (hs:kut s) (hc:kids.length<=cap) (hm:cap<=9223372036854775807)
    (hA:∀ (i:Nat) (x:Va),kids[i]?=some x->∃ b o,A=some ⟨b,o,none⟩/\S b/\At w b (o+i*4) (css i))
    (hk:∀ (i:Nat) (x:Va),kids[i]?=some x->RepVa S w (css i) x):RepVa S w [.int .i64 t, .int .i64 n, .string s, .slice A kids.length cap] (.mk t n s kids)
abbrev Vas (S:Nat->Prop) (w:World) (v:Value) (l:List Va):Prop:=RepSl S w 4 (RepVa S w) v l
theorem RepVa.len {cs:List Value} {t:Va} (h:RepVa S w cs t):cs.length=4:=by cases h;rfl
theorem RepVa.form {cs:List Value} {t n:Int} {s:BA} {l:List Va} (h:RepVa S w cs (.mk t n s l)):∃ v,cs=[.int .i64 t, .int .i64 n, .string s,v]/\khs t/\khs n/\kut s/\Vas S w v l:=by
  cases h with
  | mk _ _ _ _ A cap css ht hn hs hc hm hA hk=>
    refine ⟨_,rfl,ht,hn,hs,A,cap,rfl,hc,hm,fun i x hx=>?_⟩;obtain ⟨b,o,h1,a,c⟩:=hA i x hx;exact ⟨b,o,css i,h1,a,c,(hk i x hx).len,hk i x hx⟩
theorem RepVa.of {v:Value} {t n:Int} {s:BA} {l:List Va} (ht:khs t) (hn:khs n) (hs:kut s) (h:Vas S w v l):RepVa S w [.int .i64 t, .int .i64 n, .string s,v] (.mk t n s l):=by
  obtain ⟨A,cap,rfl,hc,hm,hx⟩:=h;have:∀ i:Nat,∃ cs:List Value,∀ x:Va,l[i]?=some x->(∃ b o,A=some ⟨b,o,none⟩/\S b/\At w b (o+i*4) cs)/\RepVa S w cs x:=fun i=>by
    cases hi:l[i]? with
    | none=>exact ⟨[],fun x h=>by cases h⟩
    | some x=>
      obtain ⟨b,o,cs,h1,c,d,_,e⟩:=hx i x hi;exact ⟨cs,fun y hy=>by cases hy;exact ⟨⟨b,o,h1,c,d⟩,e⟩⟩
  obtain ⟨css,a⟩:=Classical.axiomOfChoice this;exact .mk t n s l A cap css ht hn hs hc hm (fun i x hi=>(a i x hi).1) (fun i x hi=>(a i x hi).2)
section
variable {T:Type} {size:Nat} {R:(Nat->Prop)->World->List Value->T->Prop} {v:Value} {l:List T}
end
def k5v (S:Nat->Prop) (w:World) (cs:List Value) (x:Sy):Prop:=cs=[.string x.name, .int .i64 x.type]/\kut x.name/\khs x.type
def k5r (S:Nat->Prop) (w:World) (cs:List Value) (x:Ru):Prop:=
  ∃ c0 c1 c2 c3 v,cs=[.int .i64 x.symbol, .int .i64 x.kind, .int .i64 x.input,c0,c1,c2,c3, .string x.op,v]/\khs x.symbol/\khs x.kind/\khs x.input/\kut x.op/\RepVa S w [c0,c1,c2,c3] x.const/\Ints S w v x.args
abbrev Sys (S:Nat->Prop) (w:World) (v:Value) (l:List Sy):Prop:=RepSl S w 2 (k5v S w) v l
abbrev Rus (S:Nat->Prop) (w:World) (v:Value) (l:List Ru):Prop:=RepSl S w 9 (k5r S w) v l
def kaiz (S:Nat->Prop) (w:World) (cs:List Value) (x:La):Prop:=
  ∃ v1 v2 v3,cs=[.string x.name,v1,v2,v3]/\kut x.name/\Ints S w v1 x.inputs/\Sys S w v2 x.symbols/\Rus S w v3 x.rules
def LaV (S:Nat->Prop) (w:World) (v:Value) (x:La):Prop:=∃ cs:List Value,v = .agg cs.toArray/\kaiz S w cs x
end
end Go.Proofs.YtjpkdegjcilndaaGreatDoor
set_option linter.all false
set_option linter.unusedSectionVars false
namespace Go.Proofs.YtjpkdegjcilndaaGreatDoor
open Go Go.RowKit
variable [Dr]
mutual
def eVaR:Va->FV
  | .mk t n s l => .agg [eI t,eI n,eS s, .lst 4 l.length (ku8 l)]
def ku8:List Va->List FV
  | []=>[]
  | x::l=>eVaR x::ku8 l
end
def eVa (x:Va):FV := .agg [eI x.type,eI x.num,eS x.text,eL 4 eVaR x.items]
theorem k0c:∀ l:List Va,ku8 l=l.map eVaR
  | []=>by simp [ku8]
  | x::l=>by simp [ku8,k0c l]
theorem kaac (x:Va):eVaR x=eVa x:=by cases x;simp [eVaR,eVa,k0c,eL,Va.type,Va.num,Va.text,Va.items]
theorem kach (x:Va):(eVaR x).cells=(eVa x).cells:=by rw [kaac]
theorem kaf6 (x:Va):(eVaR x).cells.length=4:=by rw [kaac];rfl
mutual
def eTmR:Tm->FV
  | .mk r l => .agg [eI r, .lst 2 l.length (kvq l)]
def kvq:List Tm->List FV
  | []=>[]
  | x::l=>eTmR x::kvq l
end
def eTm (x:Tm):FV := .agg [eI x.rule,eL 2 eTmR x.args]
theorem kz2:∀ l:List Tm,kvq l=l.map eTmR
  | []=>by simp [kvq]
  | x::l=>by simp [kvq,kz2 l]
theorem kig (x:Tm):eTmR x=eTm x:=by cases x;simp [eTmR,eTm,kz2,eL,Tm.rule,Tm.args]
theorem kaa9 (x:Tm):(eTmR x).cells=(eTm x).cells:=by rw [kig]
theorem kagq (x:Tm):(eTmR x).cells.length=2:=by rw [kig];rfl
def eSy (x:Sy):FV := .agg [eS x.name,eI x.type]
def eRu (x:Ru):FV := .agg [eI x.symbol,eI x.kind,eI x.input,eI x.const.type,eI x.const.num,eS x.const.text,eL 4 eVaR x.const.items,eS x.op,eL 1 eI x.args]
def eLa (x:La):FV := .agg [eS x.name,eL 1 eI x.inputs,eL 2 eSy x.symbols,eL 9 eRu x.rules]
end Go.Proofs.YtjpkdegjcilndaaGreatDoor
set_option linter.all false
namespace Go.Proofs.YtjpkdegjcilndaaGreatDoor
open Go Go.RowKit Go.ChangeShapes Go.WideShapes Go.ChangeAt Go.ChangeMaps
section
variable {T:Type} {P:Program} {H:Type} {enc:TypeId×Value->H} {w:World} {base:Nat} {spare:Nat->Bool} {held:Bool}
theorem kyu {R:List Value->T->Prop} (ec:T->FV) (size:Nat) {v:Value} {xs:List T} (h:RepSl Any w size R v xs) (e:∀ cs x,x∈xs->R cs x->(ec x).cells.length=size/\(∀ y∈(ec x).cells,y.single=true)/\∀ (j:Nat) (u:Value) (y:FV),cs[j]?=some u->(ec x).cells[j]?=some y->RF Any w u y) (f:0<size:=by omega):RF Any w v (eL size ec xs):=by
  obtain ⟨A,cap,rfl,h1,g,k⟩:=h;have d:∀ i:Nat,∃ cs:List Value,∀ x,xs[i]?=some x->∃ b o,A=some ⟨b,o,none⟩/\At w b (o+i*size) cs/\cs.length=size/\R cs x:=fun i=>by
    cases hx:xs[i]? with
    | none=>exact ⟨[],fun x h=>by cases h⟩
    | some x=>
      obtain ⟨b,o,cs,e1,_,e2,e3,e4⟩:=k i x hx;exact ⟨cs,fun y hy=>by injection hy with hy;subst hy;exact ⟨b,o,e1,e2,e3,e4⟩⟩
  obtain ⟨css,c⟩:=Classical.axiomOfChoice d;refine .lst css (by simp) h1 g f (fun i x hx=>?_) (fun i x hx=>?_) fun i x j v y hx hv hy=>?_
  · simp only [qq,qt] at hx
    obtain ⟨z,a,rfl⟩:=hx;obtain ⟨b,o,e1,e2,_⟩:=c i z a;exact ⟨b,o,e1,trivial,e2⟩
  · simp only [qq,qt] at hx
    obtain ⟨z,a,rfl⟩:=hx;obtain ⟨b,o,e1,e2,e3,e4⟩:=c i z a;obtain ⟨g1,g2,_⟩:=e _ z (qn a) e4;exact ⟨e3,g1,g2⟩
  · simp only [qq,qt] at hx
    obtain ⟨z,a,rfl⟩:=hx;obtain ⟨b,o,e1,e2,e3,e4⟩:=c i z a;exact (e _ z (qn a) e4).2.2 j v y hv hy
theorem kamk {x:Value} {cs:List Value} (a:cs=[x]) (hx:x.oneCell'=true):(FV.atom x).cells.length=1/\(∀ y∈(FV.atom x).cells,y.single=true)/\∀ (j:Nat) (u:Value) (y:FV),cs[j]?=some u->(FV.atom x).cells[j]?=some y->RF Any w u y:=by
  subst a;refine ⟨rfl,fun y hy=>?_,fun j u y b hy=>?_⟩
  · simp [FV.cells] at hy
    subst hy;exact hx
  · cases j with
    | zero=>
      simp [FV.cells] at b hy;subst b hy;exact .atom hx
    | succ j=>simp at b
theorem kaey {f:FuncId} (args:List FV) {vs:Array Value} (hp:PCall P f args (eB true)) (hs:vs.size=args.length) (hr:∀ (i:Nat) (v:Value) (x:FV),vs[i]?=some v->args[i]?=some x->RF Any w v x):
    Calls P f vs w fun e w'=>e = .returned (.bool true)/\RowKit.Below w.heap.size w w':=by
  refine (hp.2 Any w vs hs hr).mono ?_;rintro e w' ⟨v,rfl,h1,a⟩;rw [h1.atom_eq];exact ⟨rfl,a.toBelow⟩
end
variable [Dr]
def ior (k:IntKind) (a b:Int):Int:=k.wrap (BitVec.ofInt k.bits a ||| BitVec.ofInt k.bits b).toNat
def imin (a b:Int):Int:=if b<a then b else a
def imax (a b:Int):Int:=if a<b then b else a
def quo (k:IntKind) (a b:Int):Option Int:=if b=0 then none else some (k.wrap (a.tdiv b))
def rem (k:IntKind) (a b:Int):Option Int:=if b=0 then none else some (a.tmod b)
def cutS (s:BA) (lo hi:Int):Option BA:=if 0<=lo/\lo<=hi/\hi<=(s.size:Int) then some (s.extract lo.toNat hi.toNat) else none
def cutL {α:Type} (xs:List α) (lo hi:Int):Option (List α):=if 0<=lo/\lo<=hi/\hi<=(xs.length:Int) then some ((xs.take hi.toNat).drop lo.toNat) else none
variable {P:Program} {F S0:Nat->Prop} {N0:Nat} {w w':World} {S S':Nat->Prop} {ψ:Env} {K:Nat->Prop} {T:List (TypeId×TD)} {o:Oper} {a:Act} {st:St} {t:TypeId} {d:TD}
theorem kain {x y:Operand} {ts:Array TypeId} {k k':IntKind} {m n:Int} (c:o.op = .call { callee := .builtin .min,args:=#[x,y],argTypes:=ts }) (hx:st.eval x = .fz (.atom (.int k m))) (hy:st.eval y = .fz (.atom (.int k' n))):NStep P o st (.fz (.atom (.int k (imin m n)))):=by intro ψ S a w ht _;have h1:=Sim.eval_tmps ht x;rw [hx] at h1;have b:=Sim.eval_tmps ht y;rw [hy] at b;refine kae w (.int k (imin m n)) ?_ ⟨kaf _, .fz (.atom rfl)⟩;simp [execOp,c,resolve,invoke,builtin,h1.atom,b.atom,Builtin.min_,Builtin.min2,imin]
theorem kaiu {x y:Operand} {ts:Array TypeId} {k k':IntKind} {m n:Int} (c:o.op = .call { callee := .builtin .max,args:=#[x,y],argTypes:=ts }) (hx:st.eval x = .fz (.atom (.int k m))) (hy:st.eval y = .fz (.atom (.int k' n))):NStep P o st (.fz (.atom (.int k (imax m n)))):=by intro ψ S a w ht _;have h1:=Sim.eval_tmps ht x;rw [hx] at h1;have b:=Sim.eval_tmps ht y;rw [hy] at b;refine kae w (.int k (imax m n)) ?_ ⟨kaf _, .fz (.atom rfl)⟩;simp [execOp,c,resolve,invoke,builtin,h1.atom,b.atom,Builtin.max_,Builtin.max2,imax]
theorem kaix (x y:Operand) (yt:TypeId) (k:IntKind) (m n:Int) {r:Int} (h:quo k m n=some r) (a:o.op = .binOp .quo t x y yt:=by kernel_rfl) (hx:st.eval x = .fz (.atom (.int k m)):=by kernel_rfl) (hy:st.eval y = .fz (.atom (.int k n)):=by kernel_rfl):NStep P o st (.fz (.atom (.int k r))):=by
  unfold quo at h;split at h
  · cases h
  · rename_i b
    injection h with h;subst h;exact kacs false (fun h=>nomatch h) a hx hy (by simp [binV,intV,b])
def kru (st:St):Option Operand->Option (Option Int)
  | none=>some none
  | some x=>match st.eval x with
    | .fz (.atom (.int _ n))=>some (some n)
    | _=>none
theorem kqe {ids:List Nat} (ht:∀ t,RV ψ (·∈ids) S w (a.tmps.getD t undef) (st.get t)) {x:Option Operand} {r:Option Int} (h:kru st x=some r):(x=none/\r=none)\/∃ y k n,x=some y/\r=some n/\a.eval y = .int k n:=by
  unfold kru at h;split at h
  · injection h with h;exact .inl ⟨rfl,h.symm⟩
  · rename_i y
    split at h
    · rename_i k n hk
      injection h with h;have h1:=Sim.eval_tmps ht y;rw [hk] at h1;exact .inr ⟨y,k,n,rfl,h.symm,h1.atom⟩
    · cases h
theorem kadm (x:Operand) (lo hi:Option Operand) (l h:Option Int) (s:BA) {r:BA} (hc:cutS s (l.getD 0) (h.getD s.size)=some r) (e:TOk P T) (f:o.op = .slice t x lo hi none:=by kernel_rfl) (hd:kad T t=some d:=by kernel_rfl) (hk:d.kind = .str:=by kernel_rfl) (hx:st.eval x = .fz (.atom (.string s)):=by kernel_rfl) (hl:kru st lo=some l:=by kernel_rfl) (g:kru st hi=some h:=by kernel_rfl):
    NStep P o st (.fz (.atom (.string r))):=by
  intro ψ S a w ht m;have h1:=Sim.eval_tmps ht x;rw [hx] at h1;have bl:=kqe ht hl;have bh:=kqe ht g;unfold cutS at hc;split at hc
  · rename_i b
    injection hc with hc;subst hc;refine kae w (.string (s.extract (l.getD 0).toNat (h.getD s.size).toNat)) ?_ ⟨kaf _, .fz (.atom rfl)⟩;have i:=(e.get hd).str hk;have e1:(Instr.sliceBounds false s.size s.size (lo.map a.eval) (hi.map a.eval) none).run P w = .ok ((l.getD 0).toNat,(h.getD s.size).toNat,s.size) w:=by
      unfold Instr.sliceBounds;rcases bh with ⟨rfl,rfl⟩ | ⟨y,k,n,rfl,rfl,hy⟩
      · rcases bl with ⟨rfl,rfl⟩ | ⟨y',k',n',rfl,rfl,c⟩
        · simp
        · simp only [qbj,Option.getD_none] at b ⊢
          simp [Instr.sliceBound,c,asIntOf,b.1,b.2.1]
      · rcases bl with ⟨rfl,rfl⟩ | ⟨y',k',n',rfl,rfl,c⟩
        · simp only [qbj,Option.getD_none] at b ⊢
          simp [Instr.sliceBound,hy,asIntOf,b.2.1,b.2.2]
        · simp only [qbj] at b ⊢
          have:0<=n:=(by omega);have j:n'<=(n.toNat:Int):=(by omega);simp [Instr.sliceBound,hy,c,asIntOf,b.1,b.2.2,this,j];intro hc;exfalso;omega
    simp [execOp,f,Instr.sliceAt,Instr.slice,run_underlying i,h1.atom,e1]
  · cases hc
theorem RF.take {v:Value} {size n k:Nat} {A:Option Addr} {cap:Nat} {xs:List FV} (h:RF S w (.slice A n cap) (.lst size n xs)) (lo hi:Nat) (h1:lo<=hi) (e:hi<=n):∃ A',A'=(if cap=lo then A else A.map (·.add (lo*size)))/\RF S w (.slice A' (hi - lo) (cap - lo)) (.lst size (hi - lo) ((xs.take hi).drop lo)):=by
  obtain ⟨A0,cap0,css,hv,hn,hc,hm,hs,ha,hl,hr⟩:=h.lst_inv;injection hv with e1 _ e3;subst e1 e3;have a:(xs.take hi).length=hi:=by rw [qaw];omega
  have get:∀ (i:Nat) (x:FV),((xs.take hi).drop lo)[i]?=some x->xs[lo+i]?=some x:=fun i x hx=>by
    rw [qao,qab] at hx;split at hx
    · exact hx
    · cases hx
  refine ⟨_,rfl, .lst (fun i=>css (lo+i)) (by rw [qa9,a]) (by omega) (by omega) hs (fun i x hx=>?_) (fun i x hx=>hl _ x (get i x hx)) fun i x j v y hx hv hy=>hr _ x j v y (get i x hx) hv hy⟩;obtain ⟨b,o,hA,hS,c⟩:=ha _ x (get i x hx);have d:=(qg.1 (get i x hx)).1;refine ⟨b,o+lo*size,?_,hS,by rw [Nat.add_assoc,<- qbc];exact c⟩;rw [qi (by omega),hA];simp only [qa6,kb6]
theorem klf (t:TypeId) (d:TD) {α:Type} (enc:α->FV) (x:Operand) (lo hi:Option Operand) (l h:Option Int) (xs:List α) {r:List α} (size:Nat) (e:TypeId) (de:TD) (hc:cutL xs (l.getD 0) (h.getD xs.length)=some r) (p:TOk P T:=by exact tt_ok) (s:o.op = .slice t x lo hi none:=by kernel_rfl) (hd:kad T t=some d:=by kernel_rfl) (hk:d.kind = .slice e:=by kernel_rfl) (f:kad T e=some de:=by kernel_rfl) (g:de.size=size:=by kernel_rfl) (hx:st.eval x = .fz (eL size enc xs):=by kernel_rfl) (hl:kru st lo=some l:=by kernel_rfl) (u:kru st hi=some h:=by kernel_rfl):NStep P o st (.fz (eL size enc r)):=by
  intro ψ S a w ht F;have h1:=Sim.eval_tmps ht x;rw [hx] at h1;have bl:=kqe ht hl;have bh:=kqe ht u;unfold cutL at hc;split at hc
  · rename_i b
    injection hc with hc;subst hc;have h1:=h1.inv;obtain ⟨A,cap,css,hv,hn,z,hm,hs,ha,B,hr⟩:=h1.lst_inv;rw [hv] at h1;obtain ⟨A',i,j⟩:=h1.take (v := .nilFunc) (k:=0) (l.getD 0).toNat (h.getD xs.length).toNat (by omega) (by omega);refine kae w (.slice A' ((h.getD xs.length).toNat - (l.getD 0).toNat) (cap - (l.getD 0).toNat)) ?_ ⟨kaf _,(RV.fz ?_).here⟩
    · have C:=(p.get hd).slice hk
      have e1:(Instr.sliceBounds true xs.length cap (lo.map a.eval) (hi.map a.eval) none).run P w = .ok ((l.getD 0).toNat,(h.getD xs.length).toNat,cap) w:=by
        unfold Instr.sliceBounds;have q:(xs.length:Int)<=(cap:Int):=(by omega);rcases bh with ⟨rfl,rfl⟩ | ⟨y,k,n,rfl,rfl,hy⟩
        · rcases bl with ⟨rfl,rfl⟩ | ⟨y',k',n',rfl,rfl,c⟩
          · simp
          · simp only [qbj,Option.getD_none] at b ⊢
            simp [Instr.sliceBound,c,asIntOf,b.1,b.2.1]
        · rcases bl with ⟨rfl,rfl⟩ | ⟨y',k',n',rfl,rfl,c⟩
          · simp only [qbj,Option.getD_none] at b ⊢
            have:n<=(cap:Int):=(by omega);simp [Instr.sliceBound,hy,asIntOf,b.2.1,this]
          · simp only [qbj] at b ⊢
            have:0<=n:=(by omega);have D:n'<=(n.toNat:Int):=(by omega);have E:n<=(cap:Int):=(by omega);simp [Instr.sliceBound,hy,c,asIntOf,b.1,this,D,E];intro hc;exfalso;omega
      have m:(sizeOf e).run P w = .ok size w:=(by rw [(p.get f).size,g]);simp [execOp,s,Instr.sliceAt,Instr.slice,run_underlying C,hv,e1,m,i]
    · have:((xs.take (h.getD xs.length).toNat).drop (l.getD 0).toNat).length=(h.getD xs.length).toNat - (l.getD 0).toNat:=by rw [qa9,qaw];omega
      unfold eL;rw [this,List.map_drop,List.map_take];exact j
  · cases hc
def zipS:List (Nat×AV)->List AV->List (Nat×AV)
  | (t,_)::l,v::vs=>(t,v)::zipS l vs
  | _,_=>[]
theorem k0o {v:Nat->Value} {K:Nat->Prop}:∀ {l:List (Nat×AV)} {vs:List AV} (t:Nat),(∀ (i:Nat) (k:Nat×AV) (x:AV),l[i]?=some k->vs[i]?=some x->RV ψ K S w (v k.1) x)->RV ψ K S w (v t) (look .any (zipS l vs) t)
  | [],vs,t,h=>by cases vs <;> exact .any
  | (k,y)::l,[],t,h => .any
  | (k,y)::l,x::vs,t,h=>by
    simp only [zipS,kat];split
    · rename_i hk
      subst hk;exact h 0 _ x rfl rfl
    · exact k0o t fun i k x hk hx=>h (i+1) k x (by simpa using hk) (by simpa using hx)
def argT:Nat->List AV->List (Nat×AV)
  | _,[]=>[]
  | i,x::l=>(i,x)::argT (i+1) l
theorem kla:∀ (l:List AV) (i t:Nat),look .any (argT i l) t = .any\/∃ x,i<=t/\l[t - i]?=some x/\look .any (argT i l) t=x
  | [],i,t => .inl rfl
  | x::l,i,t=>by
    simp only [argT,kat];by_cases h:i=t
    · subst h
      exact .inr ⟨x,qx _,by simp,by simp⟩
    · rw [qi h]
      rcases kla l (i+1) t with h1 | ⟨y,h1,a,b⟩
      · exact .inl h1
      · exact .inr ⟨y,by omega,by rw [show t - i=(t - (i+1))+1 by omega];simpa using a,b⟩
def inlQ (P:Program) (ops:Array Oper) (l:List Oper) (dst:Option Nat) (n:Nat) (D:List Deferred) (g:Nat) (cs:List Value) (keep:List (Nat×AV)) (rs:List ResultVar) (Q:Exit->St->Prop):Exit->St->Prop:=fun e st'=>
  (e = .normal\/e = .ret)/\st'.dfr=[]/\∃ vs r,kaa st'.heap g=some (.gho cs vs)/\((rs=[]/\r = .any)\/∃ z,rs=[.tmp z]/\st'.get z=r) /\
    awpL P ops l (({ n:=n,tmps:=zipS keep vs,heap:=ka9 g st'.heap,ids:=st'.ids,dfr:=D }:St).put dst r) Q
theorem kag9 {f:FuncId} {fn:Func} {c:Code} {ops:Array Oper} {l:List Oper} {Q:Exit->St->Prop} {x:Operand} {args:Array Operand} {ts:Array TypeId} {cap:List AV} {n g:Nat} {as_:List AV} (G:o.op = .call { callee := .value x,args:=args,argTypes:=ts })
    (hx : st.eval x = .fn f cap) (hg : kbp ops st o = some true) (hd : ∀ t, o.dst = some t -> t < st.n) (hf : P.funcs[f]? = some fn) (T : fn.body = some c) (hn : (fn.name == "runtime.NumGoroutine") = false) (U : fn.ntmps = n) (H : args.toList.map st.eval ++ cap = as_) (I : Nat.ble as_.length n = true) (j : st.ids.contains g = false)
    (h:∀ cs,awp P c { n:=n,tmps:=argT 0 as_,heap:=(g, .gho cs (st.tmps.map fun p=>st.get p.1))::st.heap,ids:=g::st.ids } (inlQ P ops l o.dst st.n st.dfr g cs st.tmps fn.results.toList Q)):
    awpL P ops (o::l) st Q:=by
  have I:=qs I;have j:g∉st.ids:=by simpa using j
  intro F S0 N0 ψ S a w hs;unfold kbg;rw [kew hs hg];have A:=hs.eval x;rw [hx] at A;obtain ⟨caps,hcx,V,X⟩:∃ caps:Array Value,a.eval x = .func (.func f) #[] caps/\caps.size=cap.length/\∀ (i:Nat) (v:Value) (y:AV),caps[i]?=some v->cap[i]?=some y->RV ψ (·∈st.ids) S w v y:=by
    generalize a.eval x=u at A;cases A with
    | fn h hr=>exact ⟨_,rfl,h,hr⟩
  have Y:fn.body≠none:=by rw [T];simp
  simp only [qar,ne_eq] at hn;have J:(execOp a.eval o).run P w = .ok (.enter f (args.map a.eval++caps)) w:=by simp [execOp,G,resolve,hcx,Deferred.ofValue,invoke,callFunc,hf,Y,hn]
  refine k6h (fun c h=>by rw [G] at h;cases h) J ?_;refine calls_of_wp hf T (wp_wide.1 ?_)
  -- the values of the caller's frame
  have B:=hs.core.add (n:=0) (v := .nilFunc) (w':=w) (ob := .gho (st.tmps.map fun p=>a.tmps.getD p.1 undef) (st.tmps.map fun p=>st.get p.1)) (kaf _) j (fun b T=>by cases T)
    ⟨kbf _ _,by rw [kai];rfl,by rw [kai];rfl,fun i v x hv hx=>by simp only [qq,qt] at hv hx;obtain ⟨p,hp,rfl⟩:=hv;obtain ⟨q,s,rfl⟩:=hx;rw [hp] at s;injection s with s;subst s;exact (hs.tmps p.1).keep (ka8 j _ _) (fun _ h=>qh _ h) (fun _ h=>h) (fun _ _ _=>rfl)⟩
  have K:(args.map a.eval++caps).size=as_.length:=by rw [<- H];simp [V]
  have L:∀ (i:Nat) (v:Value) (y:AV),(args.map a.eval++caps)[i]?=some v->as_[i]?=some y->RV ψ (·∈st.ids) S w v y:=fun i v y hv hy=>by
    rw [<- H] at hy;by_cases hi:i<args.size
    · rw [qa7 (by simpa using hi)] at hv
      rw [qad (by simpa using hi)] at hy;simp only [Array.getElem?_map,qt,qq,qat] at hv hy;obtain ⟨p,hp,rfl⟩:=hv;obtain ⟨q,s,rfl⟩:=hy;rw [hp] at s;injection s with s;subst s;exact hs.eval p
    · rw [Array.getElem?_append_right (by simpa using hi)] at hv
      rw [qae (by simpa using hi)] at hy;exact X _ v y (by simpa using hv) (by simpa using hy)
  have M:Sim F S0 N0 { n:=n,tmps:=argT 0 as_,heap:=(g, .gho (st.tmps.map fun p=>a.tmps.getD p.1 undef) (st.tmps.map fun p=>st.get p.1))::st.heap,ids:=g::st.ids } (ψ.set g 0 .nilFunc) S
      { tmps:=(args.map a.eval++caps)++Array.replicate (fn.ntmps - (args.map a.eval++caps).size) undef,defers:=[] } w:=by
    refine ⟨rfl,by rw [Array.size_append,K,Array.size_replicate,U];show _=n;omega,fun t=>?_,B⟩;show RV _ _ _ w _ (look .any (argT 0 as_) t);rcases kla as_ 0 t with h | ⟨y,_,h1,m⟩
    · rw [h];exact .any
    · rw [m]
      have h1:as_[t]?=some y:=(by simpa using h1);have C:t<(args.map a.eval++caps).size:=(by rw [K];exact (qg.1 h1).1);have Z:((args.map a.eval++caps)++Array.replicate (fn.ntmps - (args.map a.eval++caps).size) undef).getD t undef=(args.map a.eval++caps)[t]:=(by rw [qam,qa7 C,qbf C];rfl);rw [Z];exact (L t _ y (qbf C) h1).keep (ka8 j _ _) (fun _ h=>qh _ h) (fun _ h=>h) (fun _ _ _=>rfl)
  refine kco (h _ F S0 N0 _ S _ w M) ?_;rintro e a' w' ⟨st',ψ',S',⟨he,aa,vs,r,ab,ac,D⟩,m,h3⟩;have fin:a'.defers=[]/\∃ v,(results fn a'.tmps).run P w' = .ok v w'/\kbg P ops (PostA F S0 N0 w Q) l (a.put o.dst v) w':=by
    refine ⟨m.defers.trans aa,?_⟩;have N:∃ v,(results fn a'.tmps).run P w' = .ok v w'/\RV ψ' (·∈st'.ids) S' w' v r:=by
      rcases ac with ⟨hz,rfl⟩ | ⟨z,hz,ad⟩
      · refine ⟨.tuple #[],?_, .any⟩
        have:fn.results=#[]:=(by apply qbm;simpa using hz);simp [results,this]
      · refine ⟨a'.tmps.getD z undef,?_,by rw [<- ad];exact m.tmps z⟩
        have:fn.results=#[.tmp z]:=(by apply qbm;simpa using hz);simp [results,this]
    obtain ⟨v,ae,af⟩:=N;refine ⟨v,ae,?_⟩;obtain ⟨_,⟨_,_,_,ag⟩,_⟩:=m.core.obj g _ ab;have O:Core F S0 N0 (ka9 g st'.heap) st'.ids ψ' S' w':=(by refine ⟨fun i ob G=>m.core.obj i ob (kbe g G).2,fun i i' ob ob' b G ah=>m.core.inj i i' ob ob' b (kbe g G).2 (kbe g ah).2,m.core.lt,m.core.s0,m.core.n0,m.core.fr⟩);have E:Sim F S0 N0 { n:=st.n,tmps:=zipS st.tmps vs,heap:=ka9 g st'.heap,ids:=st'.ids,dfr:=st.dfr } ψ' S' a w':=(by refine ⟨hs.defers,hs.size,fun t=>?_,O⟩;exact k0o (v:=fun t=>a.tmps.getD t undef) t fun i k x hk hx=>ag i _ x (by rw [qq,hk];rfl) hx);have R:=E.put (st':={ n:=st.n,tmps:=zipS st.tmps vs,heap:=ka9 g st'.heap,ids:=st'.ids,dfr:=st.dfr }) (d:=o.dst) rfl rfl rfl O af Ext.refl (fun _ h=>h) (fun _ h=>h) (fun _ _ _=>rfl) hd;exact kdn (fun e a'' w'' k=>k.pre h3) _ _ _ (D F S0 N0 ψ' S' _ w' R)
  rcases he with rfl | rfl <;> exact fin
end Go.Proofs.YtjpkdegjcilndaaGreatDoor
set_option linter.all false
set_option linter.unusedSectionVars false
namespace Go.Proofs.YtjpkdegjcilndaaGreatDoor
namespace RE
open Go Go.RowKit
variable [Dr]
structure Tr (M:Nat->Prop) (w w':World):Prop where
  os:w'.os=w.os
  tape:w'.tape=w.tape
  output:w'.output=w.output
  size:w.heap.size<=w'.heap.size
  block:∀ b,b<w.heap.size->¬ M b->w'.heap[b]?=w.heap[b]?
  drawn:Dr.on=true->w.drawn<=w'.drawn
inductive Gd (M:Nat->Prop) where
  | det (c:Value)
  | rel (G:Value->World->Prop) (h:∀ v w w',G v w->Tr M w w'->G v w')
  | relE (G:Value->World->Prop) (h:∀ v w w',G v w->Below w.heap.size w w'->G v w')
def Gd.holds {M:Nat->Prop}:Gd M->Value->World->Prop
  | .det c,v,_=>v=c
  | .rel G _,v,w=>G v w
  | .relE G _,v,w=>G v w
section
variable {P:Program}
variable {M:Nat->Prop} {e:Nat} {D:World->Prop} {gs:List (Gd M)} {l:List Oper} {xs:Nat->Value} {a0:Act}
structure kalu {M:Nat->Prop} (e:Nat) (D:World->Prop) (gs:List (Gd M)) (l:List Oper) (C:World->Prop) (a0:Act) (listed:Array Bool) (a:Act) (w:World):Prop where
  inC:C w
  inD:listed.getD e false=false->D w
  defers:a.defers=a0.defers
  size:a.tmps.size=a0.tmps.size
  lsize:listed.size=l.length
  closed:∀ k o,listed.getD k false=true->l[k]?=some o->∀ e∈o.after,Region.binds .any e=true->listed.getD e.on false=true
  vals:∃ xs:Nat->Value,∀ j g,gs[j]?=some g->listed.getD j false=true->g.holds (xs j) w/\∀ o d,l[j]?=some o->o.dst=some d->a.tmps[d]?=some (xs j)
  rest:∀ t,(∀ j o,listed.getD j false=true->l[j]?=some o->o.dst≠some t)->a.tmps[t]?=a0.tmps[t]?
end
end RE
variable [Dr]
def kiu (P:Program) (o:Oper) (st:St) (m:Nat) (om:AObj) (c:AV) (om':AObj):Prop:=
  ∀ F S0 N0 ψ S a w,(∀ t,RV ψ (·∈st.ids) S w (a.tmps.getD t undef) (st.get t))->Core F S0 N0 [(m,om)] st.ids ψ S w->ket P o a w fun v w'=>∃ n u,Core F S0 N0 [(m,om')] st.ids (ψ.set m n u) S w'/\RV (ψ.set m n u) (·∈st.ids) S w' v c/\Fr F w w' /\
    (ψ.len m<n\/(ψ.len m=n/\u=ψ.val m))/\(∀ b,Blk u b->Blk (ψ.val m) b\/w.heap.size<=b)
variable {P:Program} {F S0:Nat->Prop} {N0:Nat} {w w':World} {S S':Nat->Prop} {ψ ψ':Env} {K K':Nat->Prop} {o:Oper} {a:Act} {st:St} {T:List (TypeId×TD)} {t:TypeId} {d:TD}
def kadg (st:St) (id n:Nat):List Nat->Prop
  | []=>True
  | t::ts=>st.get t = .row id n/\kadg st id n ts
def kv1 (x:AV) (base:List (Nat×AV)):List Nat->List (Nat×AV)
  | []=>base
  | t::ts=>(t,x)::kv1 x base ts
theorem kmu (id n:Nat) (e:TypeId) (size:Nat) (xs:List FV) (ts:List Nat) (hx:kadg st id n ts) (d:kaa st.heap id=some (.frow e size xs):=by kernel_rfl) (hn:n=xs.length:=by simp):
    LeSt st { st with tmps:=kv1 (.fz (.lst size n xs)) st.tmps ts,heap:=ka9 id st.heap }:=by
  subst hn;intro F S0 N0 ψ S a w hs;obtain ⟨c1,c2⟩:=km2 hs.core d;have c:∀ k,RV ψ (·∈st.ids) (fun b=>S b\/kak (ψ.val id)=some b) w (a.tmps.getD k undef) (st.get k):=fun k=>(hs.tmps k).mono (fun _ h=>h) fun _ h => .inl h;have h0:=(hs.core.obj id _ d).2.1.1;refine ⟨ψ,_,hs.defers,hs.size,fun k=>?_,c1⟩;show RV ψ (·∈st.ids) _ w (a.tmps.getD k undef) (look .any (kv1 (.fz (.lst size xs.length xs)) st.tmps ts) k)
  induction ts with
  | nil=>exact c k
  | cons t ts ih=>
    simp only [kv1,kat];split
    · rename_i hk
      subst hk;have hv:=c t;rw [hx.1] at hv;refine .fz ?_;generalize a.tmps.getD t undef=u at hv;cases hv with
      | row hK f h1 hv=>rw [hv (by rw [h0])];exact c2
    · exact ih hx.2
theorem klm (st':St) (ids:List Nat) (ts:List (Nat×C1)) {c:AV} (hn:NStep P o st' c) (h:coSt st ids ts []=some st':=by kernel_rfl):NStep P o st c:=by
  unfold coSt at h;cases hi:ids.all st.ids.contains with
  | false=>rw [hi] at h;simp at h
  | true=>
    cases h1:kuq st ids ts with
    | none=>rw [hi,h1] at h;simp at h
    | some r=>
      rw [hi,h1] at h;simp only [kup,qc] at h;subst h;have d:∀ id,id∈ids->id∈st.ids:=fun id e=>(by simpa using qr.1 hi id e);intro ψ S a w ht g;refine kls ?_ (hn ψ S a w (fun t=>?_) (fun id ob i=>by cases i))
      · rintro v w' ⟨k1,k2⟩
        exact ⟨k1,k2.mono d fun _ h=>h⟩
      · show RV ψ (·∈ids) S w _ (look .any r t)
        rcases kux t h1 with b | ⟨c',b,f⟩
        · rw [b];exact .any
        · rw [b]
          rw [b] at *
          exact (kpx _ (ht t)).sub1 f
theorem kyn {e:TypeId} {size:Nat} (xs:List FV) {v:Value} {cs:List Value} (c:w.ownsRow 0 e size v xs.length cs) (m:ElR size xs) (hr:RowR S w size xs cs) (f:0<size:=by omega):RF (fun b=>S b\/kak v=some b) w v (.lst size xs.length xs):=by
  rcases c.2 with ⟨hv,n⟩ | ⟨g,cap,cur,hv,_,q,o,k,r,p⟩
  · have:xs=[]:=qa5 n
    subst this;rw [hv];exact .lst (A:=none) (cap:=0) (xs:=[]) (fun _=>[]) rfl (qx _) (by omega) f (fun i x hx=>by simp at hx) (fun i x hx=>by simp at hx) (fun i x j v y hx=>by simp at hx)
  · rw [hv]
    have l:∀ i x,xs[i]?=some x->(i+1)*size<=cs.length:=fun i x hx=>(by rw [c.1];exact qa4 _ (qg.1 hx).1);refine .lst (fun i=>(cs.drop (i*size)).take size) rfl o (by unfold maxLen at k;exact k) f (fun i x hx=>⟨g,0,rfl, .inr (by rfl),fun j u d=>?_⟩) (fun i x hx=>?_) fun i x j v y hx a hy=>?_
    · rw [qab] at d
      split at d
      · rw [qao,<- p,qab] at d
        split at d
        · simp only [World.cell?,q,Nat.zero_add]
          simpa using d
        · cases d
      · cases d
    · have:=l i x hx
      rw [qbc] at this;exact ⟨by rw [qaw,qa9];omega,m x (qn hx)⟩
    · rw [qab] at a
      split at a
      · rw [qao] at a
        exact (hr i x j v y hx a hy).mono fun _ h => .inl h
      · cases a
theorem kada (f:FuncId) (fn:Func) (ts:Array TypeId) (X Y:Operand) (s:BA) (c:Int) (e:o.op = .call { callee := .value (.func f),args:=#[X,Y],argTypes:=ts }) (g:P.funcs[f]?=some fn) (b: (fn.name == "runtime.NumGoroutine") = false := by kernel_rfl) (h: fn.body.isNone = true := by kernel_rfl) (hn: Extern.findNext fn = none := by kernel_rfl) (i: Extern.find fn = some Extern.BytealgIndexByte.indexByte := by kernel_rfl) (hx: st.eval X = .fz (eS s) := by kernel_rfl) (hy: st.eval Y = .fz (eU8 c) := by kernel_rfl): NStep P o st (.fz (eI (Lib.indexByte s.data.toList c.toNat.toUInt8))) := by
  intro ψ S a w ht j;have h1:=Sim.eval_tmps ht X;rw [hx] at h1;have h1:=h1.atom;have d:=Sim.eval_tmps ht Y;rw [hy] at d;have d:=d.atom;refine kae w (.int .i64 (Lib.indexByte s.data.toList c.toNat.toUInt8)) ?_ ⟨kaf _, .fz (.atom rfl)⟩;have h0:a.eval (.func f) = .func (.func f) #[] #[]:=rfl;simp [execOp,e,resolve,h0,Deferred.ofValue,invoke,run_callFunc_extern g b h hn i,h1,d,Lib.run_indexByteString]
end Go.Proofs.YtjpkdegjcilndaaGreatDoor
set_option linter.all false
set_option linter.unusedSectionVars false
namespace Go.Proofs.YtjpkdegjcilndaaGreatDoor
open Go Go.RowKit
variable [Dr]
def rn:List (Nat×Nat)->Nat->Nat
  | [],i=>i
  | (k,j)::l,i=>bif Nat.beq k i then j else rn l i
mutual
def renA (r:List (Nat×Nat)):AV->AV
  | .fz x => .fz x
  | .agg cs => .agg (kpd r cs)
  | .tup vs => .tup (kpd r vs)
  | .ref id n off => .ref (rn r id) n off
  | .row id n => .row (rn r id) n
  | .lim a b c => .lim a b c
  | .mp id => .mp (rn r id)
  | .opt id => .opt (rn r id)
  | .sdp id n => .sdp (rn r id) n
  | .win id n lo hi sz => .win (rn r id) n lo hi sz
  | .irow id g j => .irow (rn r id) g j
  | .iref id g j off => .iref (rn r id) g j off
  | .bsl id g off len cap => .bsl (rn r id) g off len cap
  | .fn f cap => .fn f (kpd r cap)
  | .mth f cap => .mth f (kpd r cap)
  | .any => .any
def kpd (r:List (Nat×Nat)):List AV->List AV
  | []=>[]
  | x::l=>renA r x::kpd r l
end
mutual
def okA (ids:List Nat):AV->Bool
  | .fz _=>true
  | .agg cs=>okAs ids cs
  | .tup vs=>okAs ids vs
  | .ref id _ _=>ids.contains id
  | .row id _=>ids.contains id
  | .lim _ _ _=>true
  | .mp id=>ids.contains id
  | .opt id=>ids.contains id
  | .sdp id _=>ids.contains id
  | .win id _ _ _ _=>ids.contains id
  | .irow id _ _=>ids.contains id
  | .iref id _ _ _=>ids.contains id
  | .bsl id _ _ _ _=>ids.contains id
  | .fn _ cap=>okAs ids cap
  | .mth _ cap=>okAs ids cap
  | .any=>true
def okAs (ids:List Nat):List AV->Bool
  | []=>true
  | x::l=>okA ids x && okAs ids l
end
def renO (r:List (Nat×Nat)):AObj->AObj
  | .box e cs => .box e (kpd r cs)
  | .frow e s xs => .frow e s xs
  | .smap kv => .smap kv
  | .gho cs vs => .gho cs (kpd r vs)
  | .was a b c d => .was a b c d
  | .tab g ov eo ei rows => .tab g ov eo ei rows
  | .glb gs => .glb gs
  | .sit s pos => .sit s pos
  | .memo Φ h => .memo Φ h
  | .xo k => .xo k
def okO (ids:List Nat):AObj->Bool
  | .box _ cs=>okAs ids cs
  | .frow _ _ _=>true
  | .smap _=>true
  | .tab _ _ _ _ _=>true
  | .gho _ vs=>okAs ids vs
  | .glb _=>true
  | .sit _ _=>true
  | .memo _ _=>true
  | .xo (.imap _)=>true
  | .xo (.opq _)=>true
  | _=>false
theorem klo (r:List (Nat×Nat)):∀ l,kpd r l=l.map (renA r)
  | []=>rfl
  | x::l=>by simp [kpd,klo r l]
theorem kk0 (ids:List Nat):∀ l,okAs ids l=l.all (okA ids)
  | []=>rfl
  | x::l=>by simp [okAs,kk0 ids l]
theorem kzj (r:List (Nat×Nat)) (x:AV):(renA r x).single=x.single:=by cases x <;> rfl
variable {P:Program} {F S0:Nat->Prop} {N0:Nat} {w w':World} {S S':Nat->Prop} {ψ ψ':Env} {K K':Nat->Prop} {T:List (TypeId×TD)} {o:Oper} {a:Act} {st:St} {t:TypeId} {d:TD} {ids:List Nat}
theorem RV.ren {r:List (Nat×Nat)} {v:Value} {x:AV} (h:RV ψ K S w v x) (hr:∀ i,K i->K' (rn r i)/\ψ'.len (rn r i)=ψ.len i/\ψ'.val (rn r i)=ψ.val i):RV ψ' K' S w v (renA r x):=by
  induction h with
  | fz h=>exact .fz h
  | agg h h1 _ ih=>
    simp only [renA,klo];refine .agg (by simpa using h) (fun x hx=>?_) fun i v x hv hx=>?_
    · obtain ⟨y,hy,rfl⟩:=qas.1 hx
      rw [kzj];exact h1 y hy
    · simp only [qq,qt] at hx
      obtain ⟨y,hy,rfl⟩:=hx;exact ih i v y hv hy
  | tup h _ ih=>
    simp only [renA,klo];refine .tup (by simpa using h) fun i v x hv hx=>?_;simp only [qq,qt] at hx;obtain ⟨y,hy,rfl⟩:=hx;exact ih i v y hv hy
  | @ref id n off v hk hn h1 hv=>
    obtain ⟨e1,e2,e3⟩:=hr id hk;exact .ref e1 (by omega) h1 fun h=>by rw [e3];exact hv (by omega)
  | @row id n v hk hn h1 hv=>
    obtain ⟨e1,e2,e3⟩:=hr id hk;exact .row e1 (by omega) h1 fun h=>by rw [e3];exact hv (by omega)
  | lim h=>exact .lim h
  | @mp id v hk h1 hv=>
    obtain ⟨e1,e2,e3⟩:=hr id hk;exact .mp e1 h1 fun h=>by rw [e3];exact hv (by omega)
  | fn h _ ih=>
    simp only [renA,klo];refine .fn (by simpa using h) fun i v x hv hx=>?_;simp only [qq,qt] at hx;obtain ⟨y,hy,rfl⟩:=hx;exact ih i v y hv hy
  | mth h _ ih=>
    simp only [renA,klo];refine .mth (by simpa using h) fun i v x hv hx=>?_;simp only [qq,qt] at hx;obtain ⟨y,hy,rfl⟩:=hx;exact ih i v y hv hy
  | @opt id v hk h1 hv=>
    obtain ⟨e1,e2,e3⟩:=hr id hk;exact .opt e1 h1 fun h=>by rw [e3];exact hv (by omega)
  | @sdp id n v hk hn h1 hv=>
    obtain ⟨e1,e2,e3⟩:=hr id hk;exact .sdp e1 (by omega) h1 fun h=>by rw [e3];exact hv (by omega)
  | @win id n lo hi sz v hk hn h1 hv=>
    obtain ⟨e1,e2,e3⟩:=hr id hk;exact .win e1 (by omega) h1 fun h=>by rw [e3];exact hv (by omega)
  | @irow id g j v hk hn h1 hv=>
    obtain ⟨e1,e2,e3⟩:=hr id hk;exact .irow e1 (by omega) h1 fun h=>by rw [e3];exact hv (by omega)
  | @iref id g j off v hk hn h1 hv=>
    obtain ⟨e1,e2,e3⟩:=hr id hk;exact .iref e1 (by omega) h1 fun h=>by rw [e3];exact hv (by omega)
  | @bsl id g off len cap v hk hn h1 hv=>
    obtain ⟨e1,e2,e3⟩:=hr id hk;exact .bsl e1 (by omega) h1 fun h=>by rw [e3];exact hv (by omega)
  | any=>exact .any
theorem RV.subA {v:Value} {x:AV} (h:RV ψ K S w v x) (a:okA ids x=true):RV ψ (·∈ids) S w v x:=by
  induction h with
  | fz h=>exact .fz h
  | agg h h1 _ ih=>
    rw [okA,kk0] at a;exact .agg h h1 fun i v x hv hx=>ih i v x hv hx (qr.1 a x (qn hx))
  | tup h _ ih=>
    rw [okA,kk0] at a;exact .tup h fun i v x hv hx=>ih i v x hv hx (qr.1 a x (qn hx))
  | ref hK hn h1 hv=>exact .ref (by simpa [okA] using a) hn h1 hv
  | row hK hn h1 hv=>exact .row (by simpa [okA] using a) hn h1 hv
  | lim h=>exact .lim h
  | mp hK h1 hv=>exact .mp (by simpa [okA] using a) h1 hv
  | fn h _ ih=>
    rw [okA,kk0] at a;exact .fn h fun i v x hv hx=>ih i v x hv hx (qr.1 a x (qn hx))
  | mth h _ ih=>
    rw [okA,kk0] at a;exact .mth h fun i v x hv hx=>ih i v x hv hx (qr.1 a x (qn hx))
  | opt hK h1 hv=>exact .opt (by simpa [okA] using a) h1 hv
  | sdp hK hn h1 hv=>exact .sdp (by simpa [okA] using a) hn h1 hv
  | win hK hn h1 hv=>exact .win (by simpa [okA] using a) hn h1 hv
  | irow hK hn h1 hv=>exact .irow (by simpa [okA] using a) hn h1 hv
  | iref hK hn h1 hv=>exact .iref (by simpa [okA] using a) hn h1 hv
  | bsl hK hn h1 hv=>exact .bsl (by simpa [okA] using a) hn h1 hv
  | any=>exact .any
theorem ObR.subA {id:Nat} {ob:AObj} (h:ObR ψ K S w id ob) (f:okO ids ob=true):ObR ψ (·∈ids) S w id ob:=by
  cases ob with
  | box e cells=>
    obtain ⟨k0,b,cs,k1,k2,k3,k4,k5⟩:=h;rw [okO,kk0] at f;exact ⟨k0,b,cs,k1,k2,k3,k4,fun i v x hv hx=>(k5 i v x hv hx).subA (qr.1 f x (qn hx))⟩
  | frow e s xs=>exact h
  | smap kv=>exact h
  | glb gs=>exact h
  | sit s pos=>exact h
  | memo Φ hi=>exact h
  | xo k=>cases k with
    | imap kv=>exact h
    | opq J=>exact h
    | _=>cases f
  | tab g ov eo ei rows=>exact h
  | gho cs vs=>
    obtain ⟨k0,k1,k2,k3⟩:=h;rw [okO,kk0] at f;exact ⟨k0,k1,k2,fun i v x hv hx=>(k3 i v x hv hx).subA (qr.1 f x (qn hx))⟩
  | was a b c d=>cases f
theorem ObR.ren {r:List (Nat×Nat)} {id:Nat} {ob:AObj} (h:ObR ψ K S w id ob) (hr:∀ i,K i->K' (rn r i)/\ψ'.len (rn r i)=ψ.len i/\ψ'.val (rn r i)=ψ.val i) (f:K id)
    (j:okO ids ob=true):ObR ψ' K' S w (rn r id) (renO r ob):=by
  obtain ⟨e1,e2,e3⟩:=hr id f;cases ob with
  | box e cells=>
    obtain ⟨k0,b,cs,k1,k2,k3,k4,k5⟩:=h;simp only [renO,klo];refine ⟨by omega,b,cs,by rw [e3,k1],k2,by simpa using k3,fun x hx=>?_,fun i v x hv hx=>?_⟩
    · obtain ⟨y,hy,rfl⟩:=qas.1 hx
      rw [kzj];exact k4 y hy
    · simp only [qq,qt] at hx
      obtain ⟨y,hy,rfl⟩:=hx;exact (k5 i v y hv hy).ren hr
  | frow e s xs=>
    obtain ⟨k0,k1,cs,k2,k3⟩:=h;exact ⟨by omega,k1,cs,by rw [e3];exact k2,k3⟩
  | sit s pos=>
    obtain ⟨k0,b,k1,k2⟩:=h;exact ⟨by omega,b,by rw [e3,k1],k2⟩
  | glb gs=>
    obtain ⟨k0,k1,k2,k3⟩:=h;exact ⟨by omega,by rw [e3];exact k1,by rw [e3];exact k2,k3⟩
  | smap kv=>
    obtain ⟨k0,b,es,cl,k1,k2⟩:=h;exact ⟨by omega,b,es,cl,by rw [e3,k1],k2⟩
  | memo Φ hi=>
    obtain ⟨k0,b,es,cl,k1,k2⟩:=h;exact ⟨by omega,b,es,cl,by rw [e3,k1],k2⟩
  | xo k=>cases k with
    | imap kv=>
      obtain ⟨k0,b,es,k1,k2⟩:=h;exact ⟨by omega,b,es,by rw [e3,k1],k2⟩
    | opq J=>
      obtain ⟨bs,k1,k2⟩:=h;exact ⟨bs,by rw [e3,k1],k2⟩
    | _=>cases j
  | tab g ov eo ei rows=>
    obtain ⟨k0,vs,k1,k2⟩:=h;exact ⟨by omega,vs,by rw [e3,k1],k2⟩
  | gho cs vs=>
    obtain ⟨k0,k1,k2,k3⟩:=h;simp only [renO,klo];refine ⟨by omega,by rw [e3];exact k1,by rw [e3];exact k2,fun i v x hv hx=>?_⟩;simp only [qq,qt] at hx;obtain ⟨y,hy,rfl⟩:=hx;exact (k3 i v y hv hy).ren hr
  | was a b c d=>cases j
inductive HEnd where
  | ret (res:AV)
  | pan (v:Value)
def HEnd.ok (ids:List Nat):HEnd->Bool
  | .ret x=>okA ids x
  | .pan _=>true
def HEnd.ren (r:List (Nat×Nat)):HEnd->HEnd
  | .ret x => .ret (renA r x)
  | .pan v => .pan v
def HEnd.is (e:Ending) (ψ:Env) (K S:Nat->Prop) (w:World):HEnd->Prop
  | .ret res=>∃ v,e = .returned v/\RV ψ K S w v res
  | .pan v=>e = .panicked [{ v:=v,recovered:=false }]
def HCall (P:Program) (f:FuncId) (args:List AV) (pre:List (Nat×AObj)) (ids:List Nat) (E:HEnd) (post:List (Nat×AObj)) (ids':List Nat):Prop:=
  (∃ fn, P.funcs[f]? = some fn /\ fn.body.isNone = false /\ (fn.name == "runtime.NumGoroutine") = false) /\
  ∀ (F S0:Nat->Prop) (N0:Nat) (ψ:Env) (S:Nat->Prop) (w:World) (vs:Array Value),vs.size=args.length->(∀ (i:Nat) (v:Value) (x:AV),vs[i]?=some v->args[i]?=some x->RV ψ (·∈ids) S w v x)->Core F S0 N0 pre ids ψ S w ->
    Calls P f vs w fun e w'=>∃ ψ' S',E.is e ψ' (·∈ids') S' w'/\Core F S0 N0 post ids' ψ' S' w'/\Fr F w w'/\Ext (·∈ids) ψ ψ'/\(∀ i,i∈ids->i∈ids')/\(∀ b,S b->S' b)/\Same S w w'
def resA (T:List (TypeId×TD)) (st:St):ResultVar->Option AV
  | .tmp t=>some (st.get t)
  | .cell x t=>match kad T t,knl st (st.get x) with
    | some d,some xs=>km9 d xs
    | _,_=>none
def kxz (T:List (TypeId×TD)) (st:St):List ResultVar->Option (List AV)
  | []=>some []
  | r::rs=>match resA T st r,kxz T st rs with
    | some y,some ys=>some (y::ys)
    | _,_=>none
def kaa5 (T:List (TypeId×TD)) (st:St) (rs:List ResultVar):Option AV:=match kxz T st rs with
  | some [y]=>some y
  | some ys=>some (tupA ys)
  | none=>none
def retA (T:List (TypeId×TD)) (st:St) (rs:List ResultVar):Option AV:=match st.dfr with
  | []=>kaa5 T st rs
  | _=>none
theorem k0x {T:List (TypeId×TD)} {st:St} {rs:List ResultVar} {y:AV} (h:retA T st rs=some y):st.dfr=[]/\kaa5 T st rs=some y:=by
  unfold retA  at h;split at h
  · rename_i hd;exact ⟨hd,h⟩
  · cases h
def khu (T:List (TypeId×TD)) (rs:List ResultVar) (g:Nat) (ids:List Nat) (E:HEnd) (post:List (Nat×AObj)) (ids':List Nat) (ψ0:Env) (S1:Nat->Prop) (w0:World) (e:Exit) (st:St):Prop:=
  st.heap=(g, .was ψ0 ids S1 w0)::post/\st.ids=g::ids'/\(match E with
    | .ret res=>(e = .normal\/e = .ret)/\retA T st rs=some res
    | .pan v=>st.dfr=[]/\e = .panic [{ v:=v,recovered:=false }])
theorem k8l (b:TOk P T) (hs:Sim F S0 N0 st ψ S a w):∀ {rs:List ResultVar} {ys:List AV},kxz T st rs=some ys ->
    ∃ vs:List Value,(rs.mapM (kin a.tmps)).run P w = .ok vs w/\vs.length=ys.length/\∀ (i:Nat) (v:Value) (y:AV),vs[i]?=some v->ys[i]?=some y->RV ψ (·∈st.ids) S w v y
  | [],ys,h=>by simp only [kxz,qc] at h;subst h;exact ⟨[],by simp,rfl,fun i v y h=>by simp at h⟩
  | r::rs,ys,h=>by
    simp only [kxz] at h;split at h
    · rename_i y ys' h1 c
      injection h with h;subst h;obtain ⟨vs,k1,k2,k3⟩:=k8l b hs c;have key:∃ v,(kin a.tmps r).run P w = .ok v w/\RV ψ (·∈st.ids) S w v y:=by
        unfold resA at h1;split at h1
        · rename_i t
          injection h1 with h1;subst h1;exact ⟨_,rfl,hs.tmps t⟩
        · rename_i x t
          split at h1
          · rename_i d xs hd hx
            obtain ⟨ad,u,e1,e2,e3⟩:=kaak (b.get hd) (hs.tmps x) (fun id o e=>(hs.core.obj id o e).2.1) hx h1;refine ⟨u,?_,e3⟩;simp only [kin,e1,asAddr,Sem.run_bind,Sem.run_pure,Result.andThen_ok,e2]
          · cases h1
      obtain ⟨v,e1,e2⟩:=key;refine ⟨v::vs,?_,by simp [k2],fun i v' y' hv hy=>?_⟩
      · rw [List.mapM_cons]
        simp only [Sem.run_bind,e1,Result.andThen_ok,k1,Sem.run_pure]
      · cases i with
        | zero=>simp at hv hy;subst hv hy;exact e2
        | succ i=>exact k3 i v' y' (by simpa using hv) (by simpa using hy)
    · cases h
theorem k3f (d:TOk P T) (hs:Sim F S0 N0 st ψ S a w) {fn:Func} {y:AV} (h:retA T st fn.results.toList=some y):∃ v,(results fn a.tmps).run P w = .ok v w/\RV ψ (·∈st.ids) S w v y:=by
  replace h:=(k0x h).2;unfold kaa5 at h;have key:∀ ys,kxz T st fn.results.toList=some ys->∃ vs:List Value,(results fn a.tmps).run P w = .ok (if h:vs.length=1 then vs[0] else .tuple vs.toArray) w/\vs.length=ys.length/\∀ (i:Nat) (v:Value) (y:AV),vs[i]?=some v->ys[i]?=some y->RV ψ (·∈st.ids) S w v y:=fun ys hy=>by obtain ⟨vs,k1,k2,k3⟩:=k8l d hs hy;refine ⟨vs,?_,k2,k3⟩;unfold results;rw [Array.mapM_eq_mapM_toList];have b:∀ (g:ResultVar->Sem Value),(∀ x,g x=kin a.tmps x)->(fn.results.toList.mapM g).run P w = .ok vs w:=fun g b=>(by rw [show g=kin a.tmps from funext b];exact k1);simp only [Sem.run_bind,Sem.run_map];rw [b _ fun x=>by cases x <;> rfl];simp only [Result.andThen_ok,Sem.run_pure];simp
  split at h
  · rename_i z e
    injection h with h;subst h;obtain ⟨vs,k1,k2,k3⟩:=key _ e;have hl:vs.length=1:=(by simpa using k2);rw [dif_pos hl] at k1;exact ⟨_,k1,k3 0 _ _ (qb (by omega)) rfl⟩
  · rename_i ys c hy
    injection h with h;subst h;obtain ⟨vs,k1,k2,k3⟩:=key _ hy;have hl:¬ vs.length=1:=fun hl=>(by rw [k2] at hl;obtain ⟨z,rfl⟩:=List.length_eq_one_iff.1 hl;exact c z rfl);rw [dif_neg hl] at k1;exact ⟨_,k1,RV.tupA (by simpa using k2) fun i v x hv hx=>k3 i v x (by simpa using hv) hx⟩
  · cases h
theorem k8z (M : TOk P T) {f : FuncId} {fn : Func} {c : Code} {args : List AV} {pre : List (Nat × AObj)} {E : HEnd} {post : List (Nat × AObj)} {ids' : List Nat} {g : Nat} (I : P.funcs[f]? = some fn) (u : fn.body = some c) (hn : (fn.name == "runtime.NumGoroutine") = false)
    (z:Nat.ble args.length fn.ntmps=true) (y:ids.contains g=false)
    (h:∀ ψ0 S1 w0,awp P c { n:=fn.ntmps,tmps:=argT 0 args,heap:=(g, .was ψ0 ids S1 w0)::pre,ids:=g::ids } (khu T fn.results.toList g ids E post ids' ψ0 S1 w0)) (q:ids'.contains g=false) (C:(post.all fun p=>okO ids' p.2)=true) (N:E.ok ids'=true)
    (hk:(post.all fun p=>ids'.contains p.1)=true):HCall P f args pre ids E post ids':=by
  have z:=qs z;have y:g∉ids:=by simpa using y
  have q:g∉ids':=by simpa using q
  refine ⟨⟨fn,I,by rw [u];rfl,hn⟩,fun F S0 N0 ψ S w vs hs hr hc=>calls_of_wp I u (wp_wide.1 ?_)⟩;have r:=hc.add (n:=0) (v := .nilFunc) (w':=w) (ob := .was ψ ids S w) (kaf _) y (fun b u=>by cases u)
    ⟨kbf _ _,by rw [kai];rfl,by rw [kai];rfl,ka8 y _ _,fun i hi=>qh _ hi,fun b u=>u,fun _ _ _=>rfl⟩
  have A:Sim F S0 N0 { n:=fn.ntmps,tmps:=argT 0 args,heap:=(g, .was ψ ids S w)::pre,ids:=g::ids } (ψ.set g 0 .nilFunc) S
      { tmps:=vs++Array.replicate (fn.ntmps - vs.size) undef,defers:=[] } w:=by
    refine ⟨rfl,by simp;omega,fun t=>?_,r⟩;show RV _ _ _ w _ (look .any (argT 0 args) t);rcases kla args 0 t with h | ⟨x,_,h1,d⟩
    · rw [h];exact .any
    · rw [d]
      have h1:args[t]?=some x:=(by simpa using h1);have s:t<vs.size:=(by rw [hs];exact (qg.1 h1).1);have:(vs++Array.replicate (fn.ntmps - vs.size) undef).getD t undef=vs[t]:=(by rw [qam,qa7 s];simp [s]);rw [this];exact (hr t _ x (by simp [s]) h1).keep (ka8 y _ _) (fun _ h=>qh _ h) (fun _ h=>h) (fun _ _ _=>rfl)
  refine kco (h _ _ _ F S0 N0 _ S _ w A) ?_;rintro e a' w' ⟨st',ψ',S',⟨J,hi,K⟩,d,L⟩;have D:kaa st'.heap g=some (.was ψ ids S w):=by rw [J,kac,qo rfl]
  obtain ⟨_,⟨_,_,_,k1,k2,k3,k4⟩,_⟩:=d.core.obj g _ D;have m:∀ i,i∈ids->i∈ids':=fun i B=>by
    have:=k2 i B;rw [hi] at this;rcases qac.1 this with rfl | h
    · exact absurd B y
    · exact h
  have khu:∀ i ob,kaa post i=some ob->i∈ids'/\okO ids' ob=true:=fun i ob j=>by
    have hm:∀ {l:List (Nat×AObj)},kaa l i=some ob->(i,ob)∈l:=fun {l}=>by
      induction l with
      | nil=>intro h;cases h
      | cons p l ih=>
        intro h;obtain ⟨k,v⟩:=p;rw [kac] at h;split at h
        · rename_i hk;subst hk;injection h with h;subst h;exact qu ..
        · exact qh _ (ih h)
    have hm:=hm j;exact ⟨by simpa using qr.1 hk _ hm,by simpa using qr.1 C _ hm⟩
  have hl:∀ i ob,kaa post i=some ob->kaa st'.heap i=some ob:=fun i ob j=>by have G:g≠i:=fun e=>q (e ▸ (khu i ob j).1);rw [J,kac,qi G];exact j
  have a:Core F S0 N0 post ids' ψ' S' w':=by refine ⟨fun i ob j=>?_,fun i i' ob ob' b j H=>d.core.inj i i' ob ob' b (hl i ob j) (hl i' ob' H),d.core.lt,d.core.s0,d.core.n0,d.core.fr⟩;obtain ⟨_,m2,m3⟩:=d.core.obj i ob (hl i ob j);exact ⟨(khu i ob j).1,m2.subA (khu i ob j).2,m3⟩
  cases E with
  | ret res=>
    obtain ⟨O,o⟩:=K;have fin:a'.defers=[]/\∃ v,(results fn a'.tmps).run P w' = .ok v w'/\∃ ψ'' S'',HEnd.is (.returned v) ψ'' (·∈ids') S'' w' (.ret res)/\Core F S0 N0 post ids' ψ'' S'' w'/\Fr F w w'/\Ext (·∈ids) ψ ψ''/\(∀ i,i∈ids->i∈ids')/\(∀ b,S b->S'' b)/\Same S w w':=(by obtain ⟨v,e1,e2⟩:=k3f M d o;exact ⟨d.defers.trans (k0x o).1,v,e1,ψ',S',⟨v,rfl,e2.subA N⟩,a,L,k1,m,k3,k4⟩);rcases O with rfl | rfl <;> exact fin
  | pan v=>
    obtain ⟨hd,rfl⟩:=K;exact ⟨d.defers.trans hd,ψ',S',rfl,a,L,k1,m,k3,k4⟩
end Go.Proofs.YtjpkdegjcilndaaGreatDoor
set_option linter.all false
namespace Go.Proofs.YtjpkdegjcilndaaGreatDoor
open Go Go.RowKit
variable [Dr]
def kir (foot:List Nat):List (Nat×AObj)->List (Nat×AObj)
  | []=>[]
  | (k,v)::l=>bif foot.contains k then kir foot l else (k,v)::kir foot l
def renH (r:List (Nat×Nat)):List (Nat×AObj)->List (Nat×AObj)
  | []=>[]
  | (k,v)::l=>(rn r k,renO r v)::renH r l
def renI (r:List (Nat×Nat)):List Nat->List Nat
  | []=>[]
  | k::l=>rn r k::renI r l
theorem kyq (r:List (Nat×Nat)):∀ l,renI r l=l.map (rn r)
  | []=>rfl
  | x::l=>by simp [renI,kyq r l]
def k2r:List Nat->Bool
  | []=>true
  | x::l=>!l.contains x && k2r l
def preX (st:St) (r1 r2:List (Nat×Nat)) (foot:List Nat):List Nat->Option (List (Nat×AObj))
  | []=>some []
  | i::l=>match kaa st.heap (rn r2 i),preX st r1 r2 foot l with
    | some ob,some r=>bif okO foot ob then some ((i,renO r1 ob)::r) else none
    | _,_=>none
def kpi (st:St) (r1:List (Nat×Nat)) (foot:List Nat):List C1->List Operand->Option (List AV)
  | [],[]=>some []
  | c::cs,x::xs=>match kpi st r1 foot cs xs with
    | some r=>bif okA foot (co1 c (st.eval x)) then some (renA r1 (co1 c (st.eval x))::r) else none
    | none=>none
  | _,_=>none
def kog (r1:List (Nat×Nat)) (foot:List Nat):List AV->Option (List AV)
  | []=>some []
  | x::xs=>match kog r1 foot xs with
    | some r=>bif okA foot x then some (renA r1 x::r) else none
    | none=>none
def klq (st:St) (r1 r2:List (Nat×Nat)) (keys ids0 ids1:List Nat) (post:List (Nat×AObj)):Bool:=
  ids0.all (fun i=>st.ids.contains (rn r2 i) && Nat.beq (rn r1 (rn r2 i)) i) && (ids1.all (fun i=>ids0.contains i || !st.ids.contains (rn r2 i)) && (k2r (renI r2 ids1) && ((post.all fun p=>okO ids1 p.2) && keys.all ids0.contains)))
theorem kwv {f:Nat->Nat}:∀ {l:List Nat},k2r (l.map f)=true->∀ i j,i∈l->j∈l->f i=f j->i=j
  | [],_,i,j,hi,_,_=>by cases hi
  | x::l,h,i,j,hi,c,b=>by
    simp only [qa0,k2r,qp,qbp] at h;have hx:∀ k,k∈l->f k≠f x:=fun k hk e=>(by have:f x∈l.map f:=e ▸ List.mem_map_of_mem hk;have h1:=h.1;simp only [List.contains_eq_mem,decide_eq_false_iff_not] at h1;exact h1 this);rcases qac.1 hi with h1 | h1
    · rcases qac.1 c with a | a
      · rw [h1,a]
      · exact absurd (by rw [<- b,h1]) (hx j a)
    · rcases qac.1 c with a | a
      · exact absurd (by rw [b,a]) (hx i h1)
      · exact kwv h.2 i j h1 a b
theorem kn4 {i:Nat}:∀ {A B:List (Nat×AObj)} {ob:AObj},kaa (A++B) i=some ob->kaa A i=some ob\/(kaa A i=none/\kaa B i=some ob)
  | [],B,ob,h => .inr ⟨rfl,h⟩
  | (k,v)::A,B,ob,h=>by
    rw [List.cons_append,kac] at h;rw [kac];by_cases hk:k=i
    · rw [qo hk] at h ⊢; exact .inl h
    · rw [qi hk] at h ⊢; exact kn4 h
theorem kl5 {r:List (Nat×Nat)} {j:Nat}:∀ {A:List (Nat×AObj)} {ob:AObj},kaa (renH r A) j=some ob->∃ i o,kaa A i=some o/\rn r i=j/\ob=renO r o
  | [],ob,h=>by cases h
  | (k,v)::A,ob,h=>by
    simp only [renH] at h;rw [kac] at h;by_cases hk:rn r k=j
    · rw [qo hk] at h
      injection h with h;exact ⟨k,v,by rw [kac,qo rfl],hk,h.symm⟩
    · rw [qi hk] at h
      obtain ⟨i,o,h1,a,b⟩:=kl5 h;exact ⟨i,o,by rw [kac,qi (fun e=>hk (by rw [e];exact a))];exact h1,a,b⟩
theorem kll {foot:List Nat}:∀ {l:List (Nat×AObj)} {k:Nat} {ob:AObj},kaa (kir foot l) k=some ob->k∉foot/\kaa l k=some ob
  | [],k,ob,h=>by cases h
  | (j,v)::l,k,ob,h=>by
    simp only [kir] at h;cases a:foot.contains j with
    | true=>
      rw [a] at h;obtain ⟨h1,b⟩:=kll h;refine ⟨h1,?_⟩;rw [kac,qi (fun e=>h1 (by subst e;simpa using a))];exact b
    | false=>
      rw [a] at h;simp only [qd,kac] at h;rw [kac];by_cases hk:j=k
      · subst hk
        rw [qo rfl] at h ⊢;exact ⟨by simpa using a,h⟩
      · rw [qi hk] at h ⊢
        exact kll h
variable {P:Program} {F S0:Nat->Prop} {N0:Nat} {w w':World} {S S':Nat->Prop} {ψ ψ':Env} {K K':Nat->Prop} {T:List (TypeId×TD)} {o:Oper} {a:Act} {st:St} {t:TypeId} {d:TD}
theorem kx3 {r1 r2:List (Nat×Nat)} {foot:List Nat}:∀ {l:List Nat} {pre:List (Nat×AObj)},preX st r1 r2 foot l=some pre->∀ i ob,kaa pre i=some ob->i∈l/\∃ ob',kaa st.heap (rn r2 i)=some ob'/\okO foot ob'=true/\ob=renO r1 ob'
  | [],pre,h,i,ob,a=>by simp only [preX,qc] at h;subst h;cases a
  | k::l,pre,h,i,ob,a=>by
    simp only [preX] at h;split at h
    · rename_i ob1 r h1 c
      cases b:okO foot ob1 with
      | false=>rw [b] at h;cases h
      | true=>
        rw [b] at h;simp only [qe,qc] at h;subst h;rw [kac] at a;by_cases hk:k=i
        · subst hk
          rw [qo rfl] at a;injection a with a;exact ⟨qu ..,ob1,h1,b,a.symm⟩
        · rw [qi hk] at a
          exact (kx3 c i ob a).imp (qh _) id
    · cases h
theorem k8f {r1:List (Nat×Nat)} {foot ids:List Nat} (h:∀ t,RV ψ (·∈ids) S w (a.tmps.getD t undef) (st.get t)):∀ {cs:List C1} {xs:List Operand} {ys:List AV},kpi st r1 foot cs xs=some ys ->
    ys.length=xs.length/\∀ (i:Nat) (x:Operand) (y:AV),xs[i]?=some x->ys[i]?=some y->∃ z,y=renA r1 z/\RV ψ (·∈foot) S w (a.eval x) z
  | [],[],ys,b=>by simp only [kpi,qc] at b;subst b;exact ⟨rfl,fun i x y h=>by simp at h⟩
  | c::cs,x::xs,ys,b=>by
    simp only [kpi] at b;split at b
    · rename_i r h1
      cases d:okA foot (co1 c (st.eval x)) with
      | false=>rw [d] at b;cases b
      | true=>
        rw [d] at b;simp only [qe,qc] at b;subst b;obtain ⟨e1,e2⟩:=k8f h h1;refine ⟨by simp [e1],fun i x' y' hx hy=>?_⟩;cases i with
        | zero=>
          simp at hx hy;subst hx hy;exact ⟨_,rfl,(kpx c (Sim.eval_tmps h x)).subA d⟩
        | succ i=>exact e2 i x' y' (by simpa using hx) (by simpa using hy)
    · cases b
  | [],_::_,ys,b=>by cases b
  | _::_,[],ys,b=>by cases b
theorem k0j {r1:List (Nat×Nat)} {foot:List Nat} {cs:Array Value}:∀ {xs ys:List AV},kog r1 foot xs=some ys->ys.length=xs.length/\∀ (i:Nat) (y:AV),ys[i]?=some y->∃ x,xs[i]?=some x/\okA foot x=true/\y=renA r1 x
  | [],ys,a=>by simp only [kog,qc] at a;subst a;exact ⟨rfl,fun i y h=>by simp at h⟩
  | x::xs,ys,a=>by
    simp only [kog] at a;split at a
    · rename_i r h1
      cases b:okA foot x with
      | false=>rw [b] at a;cases a
      | true=>
        rw [b] at a;simp only [qe,qc] at a;subst a;obtain ⟨e1,e2⟩:=k0j (cs:=cs) h1;refine ⟨by simp [e1],fun i y hy=>?_⟩;cases i with
        | zero=>simp at hy;subst hy;exact ⟨x,rfl,b,rfl⟩
        | succ i=>simpa using e2 i y (by simpa using hy)
    · cases a
theorem kzk {f:FuncId} {as_:List AV} {pre:List (Nat×AObj)} {ids0 ids1:List Nat} {E:HEnd} {post:List (Nat×AObj)} {keys:List Nat} (hc:HCall P f as_ pre ids0 E post ids1) (r1 r2:List (Nat×Nat))
    (a:Core F S0 N0 st.heap st.ids ψ S w) (A:klq st r1 r2 keys ids0 ids1 post=true) (s:preX st r1 r2 (renI r2 ids0) keys=some pre) {vs:Array Value} (ac:vs.size=as_.length)
    (hv:∀ (i:Nat) (v:Value) (y:AV),vs[i]?=some v->as_[i]?=some y->∃ z,y=renA r1 z/\RV ψ (·∈renI r2 ids0) S w v z):
    Calls P f vs w fun e w'=>∃ ψ' S',(E.ren r2).is e ψ' (·∈renI r2 ids1++st.ids) S' w'/\Core F S0 N0 (renH r2 post++kir (renI r2 ids0) st.heap) (renI r2 ids1++st.ids) ψ' S' w'/\Fr F w w'/\Ext (·∈st.ids) ψ ψ'/\(∀ b,S b->S' b)/\Same S w w':=by
  simp only [klq,qp,qr,qb1,qbp,List.contains_eq_mem,qbx,decide_eq_false_iff_not] at A;obtain ⟨c1,c2,c3,c4,c5⟩:=A;simp only [kyq] at s hv c3 ⊢;have inj:=kwv c3;have T:∀ j,j∈ids0.map (rn r2)->∃ i,i∈ids0/\rn r2 i=j/\rn r1 j=i:=fun j u=>by obtain ⟨i,hi,rfl⟩:=qas.1 u;exact ⟨i,hi,rfl,qk (c1 i hi).2⟩
  -- the callee's view
  let ψc:Env:=⟨fun i=>ψ.len (rn r2 i),fun i=>ψ.val (rn r2 i)⟩
  let Fc:Nat->Prop:=fun b=>F b\/∃ j ob,kaa st.heap j=some ob/\j∉ids0.map (rn r2)/\Blk (ψ.val j) b
  let Sc:Nat->Prop:=fun b=>S b\/∃ j ob,kaa st.heap j=some ob/\j∈ids0.map (rn r2)/\Blk (ψ.val j) b
  have U:∀ j,j∈ids0.map (rn r2)->rn r1 j∈ids0/\ψc.len (rn r1 j)=ψ.len j/\ψc.val (rn r1 j)=ψ.val j:=fun j u=>by obtain ⟨i,hi,h1,x⟩:=T j u;rw [x];exact ⟨hi,by show ψ.len (rn r2 i)=_;rw [h1],by show ψ.val (rn r2 i)=_;rw [h1]⟩
  have ad:Core Fc Sc w.heap.size pre ids0 ψc S w:=by
    refine ⟨fun i ob K=>?_,fun i i' ob ob' b K L H d q=>?_,a.lt,fun b d => .inl (.inl d),qx _,fun b d=>?_⟩
    · obtain ⟨hi,ob',h1,x,rfl⟩:=kx3 s i ob K
      obtain ⟨k1,k2,k3⟩:=a.obj _ _ h1;have M:=c5 i hi;have N:rn r2 i∈ids0.map (rn r2):=List.mem_map_of_mem M;have ae:=qk (c1 i M).2;have hO:=(k2.subA x).ren (ψ':=ψc) (K':=(·∈ids0)) U N x;rw [ae] at hO;refine ⟨M,hO,fun b d=>⟨(k3 b d).1,?_, .inl (.inr ⟨_,ob',h1,N,d⟩)⟩⟩;rintro (V | ⟨j,oj,O,af,Q⟩)
      · exact (k3 b d).2.1 V
      · exact a.inj _ _ _ _ b O h1 (fun e=>af (e ▸ N)) Q d
    · obtain ⟨hi,ob1,h1,_,_⟩:=kx3 s i ob K
      obtain ⟨ag,ob2,x,_,_⟩:=kx3 s i' ob' L;refine a.inj _ _ _ _ b h1 x (fun e=>H ?_) d q;have e1:=qk (c1 i (c5 i hi)).2;have e2:=qk (c1 i' (c5 i' ag)).2;rw [<- e1,<- e2,e]
    · rcases d with V | ⟨j,oj,O,_,Q⟩
      · exact a.fr b V
      · exact (a.obj j oj O).2.1.lt Q
  refine (hc.2 Fc Sc w.heap.size ψc S w vs ac (fun i v y h1 x=>?_) ad).mono ?_
  · obtain ⟨z,rfl,hz⟩:=hv i v y h1 x
    exact hz.ren U
  rintro e w' ⟨ψc',S',hE,g,r,X,Y,hS,B⟩;have C:∀ i,i∈ids1->ids1.find? (fun k=>Nat.beq (rn r2 k) (rn r2 i))=some i:=fun i hi=>by
    cases h:ids1.find? (fun k=>Nat.beq (rn r2 k) (rn r2 i)) with
    | none=>
      rw [List.find?_eq_none] at h;exact absurd (Nat.beq_refl _) (h i hi)
    | some k=>
      have h1:=List.find?_some h;rw [inj k i (List.mem_of_find?_eq_some h) hi (qk h1)]
  have D:∀ j,(∀ i,i∈ids1->rn r2 i≠j)->ids1.find? (fun k=>Nat.beq (rn r2 k) j)=none:=fun j u=>by rw [List.find?_eq_none];intro i hi h;exact u i hi (qk h)
  let ψ':Env:=⟨fun j=>match ids1.find? (fun k=>Nat.beq (rn r2 k) j) with | some i=>ψc'.len i | none=>ψ.len j,fun j=>match ids1.find? (fun k=>Nat.beq (rn r2 k) j) with | some i=>ψc'.val i | none=>ψ.val j⟩
  have t:∀ i,i∈ids1->ψ'.len (rn r2 i)=ψc'.len i/\ψ'.val (rn r2 i)=ψc'.val i:=fun i hi=>by
    constructor
    · show (match ids1.find? (fun k=>Nat.beq (rn r2 k) (rn r2 i)) with | some i=>ψc'.len i | none=>ψ.len (rn r2 i))=_
      rw [C i hi]
    · show (match ids1.find? (fun k=>Nat.beq (rn r2 k) (rn r2 i)) with | some i=>ψc'.val i | none=>ψ.val (rn r2 i))=_
      rw [C i hi]
  have Z:∀ j,(∀ i,i∈ids1->rn r2 i≠j)->ψ'.len j=ψ.len j/\ψ'.val j=ψ.val j:=fun j u=>by
    constructor
    · show (match ids1.find? (fun k=>Nat.beq (rn r2 k) j) with | some i=>ψc'.len i | none=>ψ.len j)=_
      rw [D j u]
    · show (match ids1.find? (fun k=>Nat.beq (rn r2 k) j) with | some i=>ψc'.val i | none=>ψ.val j)=_
      rw [D j u]
  have m:∀ j,j∈st.ids->j∉ids0.map (rn r2)->ψ'.len j=ψ.len j/\ψ'.val j=ψ.val j:=fun j u hn=>Z j fun i hi e=>by
    rcases c2 i hi with h | h
    · exact hn (e ▸ List.mem_map_of_mem h)
    · exact h (e ▸ u)
  have J:Ext (·∈st.ids) ψ ψ':=fun j u=>by
    by_cases hn:j∈ids0.map (rn r2)
    · obtain ⟨i,hi,h1,x⟩:=T j hn
      obtain ⟨e1,e2⟩:=X i hi;obtain ⟨e3,e4⟩:=t i (Y i hi);rw [<- h1,e3,e4];exact ⟨e1,e2⟩
    · obtain ⟨e1,e2⟩:=m j u hn
      exact ⟨by omega,fun _=>e2⟩
  have G:∀ i,i∈ids1->rn r2 i∈ids1.map (rn r2)++st.ids/\ψ'.len (rn r2 i)=ψc'.len i/\ψ'.val (rn r2 i)=ψc'.val i:=fun i hi=>
    ⟨List.mem_append_left _ (List.mem_map_of_mem hi),t i hi⟩
  have hK:∀ i,i∈st.ids->i∈ids1.map (rn r2)++st.ids:=fun i hi=>List.mem_append_right _ hi;have aa:∀ b,Sc b\/w.heap.size<=b->S0 b\/N0<=b:=fun b d=>by
    rcases d with (d | ⟨j,oj,h1,_,R⟩) | d
    · exact a.s0 b d
    · exact ((a.obj j oj h1).2.2 b R).2.2
    · exact .inr (qav a.n0 d)
  have n:∀ j oj b,kaa st.heap j=some oj->j∉ids0.map (rn r2)->Blk (ψ.val j) b->Fc b/\¬ (Sc b\/w.heap.size<=b):=fun j oj b h1 x R=>by
    refine ⟨.inr ⟨j,oj,h1,x,R⟩,?_⟩;rintro ((d | ⟨k,ok,g1,g2,g3⟩) | d)
    · exact ((a.obj j oj h1).2.2 b R).1 d
    · exact a.inj j k oj ok b h1 g1 (fun e=>x (e ▸ g2)) R g3
    · have:=(a.obj j oj h1).2.1.lt R;omega
  refine ⟨ψ',S',?_,⟨fun j oj K=>?_,fun j j' oj oj' b K L H d q=>?_,g.lt,fun b d=>aa b (g.s0 b d),qav a.n0 r.size,fun b d=>qa8 (a.fr b d) r.size⟩,
    ⟨r.os,r.tape,r.output,r.size,fun b d=>r.block b (.inl d),r.drawn⟩,J,hS,B⟩
  · cases E with
    | ret res=>
      obtain ⟨v,rfl,hv⟩:=hE;exact ⟨v,rfl,hv.ren G⟩
    | pan v=>exact hE
  · rcases kn4 K with h | ⟨_,h⟩
    · obtain ⟨i,ob,h1,rfl,rfl⟩:=kl5 h
      obtain ⟨k1,k2,k3⟩:=g.obj i ob h1;refine ⟨(G i k1).1,k2.ren (ids:=ids1) G k1 ?_,fun b d=>?_⟩
      · have hm:∀ {l:List (Nat×AObj)},kaa l i=some ob->(i,ob)∈l:=fun {l}=>by
          induction l with
          | nil=>intro h;cases h
          | cons p l ih=>
            intro h;obtain ⟨k,v⟩:=p;rw [kac] at h;split at h
            · rename_i hk
              cases hk;cases qw h;exact qu ..
            · exact qh _ (ih h)
        exact c4 _ (hm h1)
      · rw [(t i k1).2] at d
        obtain ⟨m1,m2,m3⟩:=k3 b d;exact ⟨m1,fun V=>m2 (.inl V),aa b m3⟩
    · obtain ⟨hn,h1⟩:=kll h
      obtain ⟨k1,k2,k3⟩:=a.obj j oj h1;have ab:=m j k1 hn;refine ⟨hK j k1,k2.keep J hK hS B ab fun b d=>r.block b (n j oj b h1 hn d).1,fun b d=>?_⟩;rw [ab.2] at d;exact ⟨fun hs=>(n j oj b h1 hn d).2 (g.s0 b hs),(k3 b d).2⟩
  · have bA:∀ {i ob},kaa post i=some ob->Blk (ψ'.val (rn r2 i)) b->¬ Fc b:=fun {i ob} h1 d=>by obtain ⟨k1,_,k3⟩:=g.obj i ob h1;rw [(t i k1).2] at d;exact (k3 b d).2.1
    rcases kn4 K with h | ⟨_,h⟩ <;> rcases kn4 L with h' | ⟨_,h'⟩
    · obtain ⟨i,ob,h1,rfl,rfl⟩:=kl5 h
      obtain ⟨i',ob',o,rfl,rfl⟩:=kl5 h';obtain ⟨k1,_,_⟩:=g.obj i ob h1;obtain ⟨k1',_,_⟩:=g.obj i' ob' o;rw [(t i k1).2] at d;rw [(t i' k1').2] at q;exact g.inj i i' ob ob' b h1 o (fun e=>H (by rw [e])) d q
    · obtain ⟨i,ob,h1,rfl,rfl⟩:=kl5 h
      obtain ⟨I,o⟩:=kll h';rw [(m j' (a.obj j' oj' o).1 I).2] at q;exact bA h1 d (n j' oj' b o I q).1
    · obtain ⟨i',ob',o,rfl,rfl⟩:=kl5 h'
      obtain ⟨hn,h1⟩:=kll h;rw [(m j (a.obj j oj h1).1 hn).2] at d;exact bA o q (n j oj b h1 hn d).1
    · obtain ⟨hn,h1⟩:=kll h
      obtain ⟨I,o⟩:=kll h';rw [(m j (a.obj j oj h1).1 hn).2] at d;rw [(m j' (a.obj j' oj' o).1 I).2] at q;exact a.inj j j' oj oj' b h1 o H d q
def fnOf (n:Nat):AV->Option (FuncId×List AV)
  | .fn f cap=>some (f,cap)
  | .mth f fst=>bif Nat.beq n 0 then some (f,fst) else none
  | _=>none
theorem kabv {f : FuncId} {fst : Array Value} {x : Operand} {args : Array Operand} {ts : Array TypeId} (e : o.op = .call { callee := .value x, args := args, argTypes := ts }) (hx : a.eval x = .func (.func f) fst #[]) (h0 : args.size = 0) (g : ∃ fn, P.funcs[f]? = some fn /\ fn.body.isNone = false /\ (fn.name == "runtime.NumGoroutine") = false) :
    (execOp a.eval o).run P w = .ok (.enter f (args.map a.eval++fst)) w:=by
  obtain ⟨fn,h1,c,d⟩:=g;have b:fn.body≠none:=by intro h;rw [h] at c;cases c
  simp only [qar,ne_eq] at d;have hn:args=#[]:=Array.eq_empty_of_size_eq_zero h0;subst hn;simp [execOp,e,resolve,hx,Deferred.ofValue,invoke,callFunc,h1,b,d]
theorem kacm {f : FuncId} {caps : Array Value} {x : Operand} {args : Array Operand} {ts : Array TypeId} (e : o.op = .call { callee := .value x, args := args, argTypes := ts }) (hx : a.eval x = .func (.func f) #[] caps) (g : ∃ fn, P.funcs[f]? = some fn /\ fn.body.isNone = false /\ (fn.name == "runtime.NumGoroutine") = false) :
    (execOp a.eval o).run P w = .ok (.enter f (args.map a.eval++caps)) w:=by
  obtain ⟨fn,h1,c,d⟩:=g;have b:fn.body≠none:=by intro h;rw [h] at c;cases c
  simp only [qar,ne_eq] at d;simp [execOp,e,resolve,hx,Deferred.ofValue,invoke,callFunc,h1,b,d]
theorem k6l {f:FuncId} {cap:List AV} {x:Operand} {args:Array Operand} {ts:Array TypeId} {cs:List C1} {as1 as2 pre:_} {ids0 ids1:List Nat} {E:HEnd} {post:List (Nat×AObj)} {keys:List Nat} (r1 r2:List (Nat×Nat)) (r:o.op = .call { callee := .value x,args:=args,argTypes:=ts })
    (hx:fnOf args.size (st.eval x)=some (f,cap)) (hc:HCall P f (as1++as2) pre ids0 E post ids1) (d:kpi st r1 (renI r2 ids0) cs args.toList=some as1) (j:kog r1 (renI r2 ids0) cap=some as2)
    (g:klq st r1 r2 keys ids0 ids1 post=true) (k:preX st r1 r2 (renI r2 ids0) keys=some pre) (hs:Sim F S0 N0 st ψ S a w):
    ∃ vs,(execOp a.eval o).run P w = .ok (.enter f vs) w/\Calls P f vs w fun e w'=>∃ ψ' S',(E.ren r2).is e ψ' (·∈renI r2 ids1++st.ids) S' w'/\Core F S0 N0 (renH r2 post++kir (renI r2 ids0) st.heap) (renI r2 ids1++st.ids) ψ' S' w'/\Fr F w w'/\Ext (·∈st.ids) ψ ψ'/\(∀ b,S b->S' b)/\Same S w w':=by
  have c:=hs.eval x;obtain ⟨caps,l,m,n⟩:∃ caps:Array Value,(execOp a.eval o).run P w = .ok (.enter f (args.map a.eval++caps)) w/\caps.size=cap.length/\∀ (i:Nat) (v:Value) (y:AV),caps[i]?=some v->cap[i]?=some y->RV ψ (·∈st.ids) S w v y:=by
    generalize s:a.eval x=u at c;generalize st.eval x=y at hx c;unfold fnOf at hx;split at hx
    · simp only [qc,qv] at hx
      obtain ⟨rfl,rfl⟩:=hx;cases c with
      | fn h hr=>exact ⟨_,kacm r s hc.1,h,hr⟩
    · rename_i f' fst
      cases q:Nat.beq args.size 0 with
      | false=>rw [q] at hx;cases hx
      | true=>
        rw [q] at hx;simp only [qe,qc,qv] at hx;obtain ⟨rfl,rfl⟩:=hx;cases c with
        | mth h hr=>exact ⟨_,kabv r s (qk q) hc.1,h,hr⟩
    · cases hx
  refine ⟨_,l,?_⟩;obtain ⟨e1,e2⟩:=k8f hs.tmps d;obtain ⟨e3,e4⟩:=k0j (cs:=caps) j;refine kzk hc r1 r2 hs.core g k (by simp [e1,e3,m]) fun i v y hv hy=>?_;by_cases hi:i<args.size
  · rw [qa7 (by simpa using hi)] at hv
    rw [qad (by rw [e1];simpa using hi)] at hy;simp only [Array.getElem?_map,qt] at hv;obtain ⟨p,hp,rfl⟩:=hv;exact e2 i p y (by simpa using hp) hy
  · rw [Array.getElem?_append_right (by simpa using hi)] at hv
    rw [qae (by rw [e1];simpa using hi)] at hy;have hl:as1.length=args.size:=(by rw [e1];simp);obtain ⟨z,h1,t,rfl⟩:=e4 _ y hy;exact ⟨z,rfl,(n _ v z (by simpa using hv) (by rw [<- h1,hl])).subA t⟩
theorem kaek {f:FuncId} {cap:List AV} {x:Operand} {args:Array Operand} {ts:Array TypeId} {cs:List C1} {as1 as2 pre:_} {ids0 ids1:List Nat} {res:AV} {post:List (Nat×AObj)} {keys:List Nat} (r1 r2:List (Nat×Nat)) (h:o.op = .call { callee := .value x,args:=args,argTypes:=ts })
    (hx:fnOf args.size (st.eval x)=some (f,cap)) (hc:HCall P f (as1++as2) pre ids0 (.ret res) post ids1) (b:kpi st r1 (renI r2 ids0) cs args.toList=some as1) (d:kog r1 (renI r2 ids0) cap=some as2)
    (c:klq st r1 r2 keys ids0 ids1 post=true) (g:preX st r1 r2 (renI r2 ids0) keys=some pre):
    StepA P o st (renA r2 res) (renH r2 post++kir (renI r2 ids0) st.heap) (renI r2 ids1++st.ids):=by
  intro F S0 N0 ψ S a w hs;obtain ⟨vs,h1,j⟩:=k6l r1 r2 h hx hc b d c g hs;unfold ket;rw [h1];refine j.mono ?_;rintro e w' ⟨ψ',S',⟨v,rfl,hv⟩,k,l,m,n,p⟩;exact ⟨v,rfl,ψ',S',k,hv,l,m,fun i hi=>List.mem_append_right _ hi,n,p⟩
theorem h_pan [Rd] {f:FuncId} {cap:List AV} {ops:Array Oper} {l:List Oper} {Q:Exit->St->Prop} {x:Operand} {args:Array Operand} {ts:Array TypeId} {cs:List C1} {as1 as2 pre:_} {ids0 ids1:List Nat} {v:Value} {post:List (Nat×AObj)} {keys:List Nat} (r1 r2:List (Nat×Nat)) (k:o.op = .call { callee := .value x,args:=args,argTypes:=ts })
    (hx:fnOf args.size (st.eval x)=some (f,cap)) (hc:HCall P f (as1++as2) pre ids0 (.pan v) post ids1) (b:kpi st r1 (renI r2 ids0) cs args.toList=some as1) (g:kog r1 (renI r2 ids0) cap=some as2)
    (d:klq st r1 r2 keys ids0 ids1 post=true) (j:preX st r1 r2 (renI r2 ids0) keys=some pre) (m:kbp ops st o=some true)
    (hn:Q (.panic [{ v:=v,recovered:=false }]) { st with heap:=renH r2 post++kir (renI r2 ids0) st.heap,ids:=renI r2 ids1++st.ids }):awpL P ops (o::l) st Q:=by
  intro F S0 N0 ψ S a w hs;obtain ⟨vs,h1,n⟩:=k6l r1 r2 k hx hc b g d j hs;unfold kbg;rw [kew hs m];refine k6h (fun c h=>by rw [k] at h;cases h) h1 ?_;refine n.mono ?_;rintro e w' ⟨ψ',S',rfl,p,q,r,s,u⟩;exact ⟨_,ψ',S',hn,⟨hs.defers,hs.size,fun t=>(hs.tmps t).keep r (fun i hi=>List.mem_append_right _ hi) s u,p⟩,q⟩
def hQ (T:List (TypeId×TD)) (rs:List ResultVar) (g:Nat) (ids:List Nat) (E:HEnd) (post:List (Nat×AObj)) (ids':List Nat) (ψ0:Env) (S1:Nat->Prop) (w0:World) (e:Exit) (st:St):Prop:=
  ∃ st2,LeSt st st2/\khu T rs g ids E post ids' ψ0 S1 w0 e st2
theorem k1i {rs:List ResultVar} {g:Nat} {ids ids':List Nat} {res:AV} {post:List (Nat×AObj)} {ψ0:Env} {S1:Nat->Prop} {w0:World} {e:Exit} {st st2:St} (hl:LeSt st st2) (a:st2.heap=(g, .was ψ0 ids S1 w0)::post) (hi:st2.ids=g::ids')
    (b:e = .normal\/e = .ret) (hr:retA T st2 rs=some res):hQ T rs g ids (.ret res) post ids' ψ0 S1 w0 e st:=⟨st2,hl,a,hi,b,hr⟩
theorem kaml {rs:List ResultVar} {g:Nat} {ids ids':List Nat} {v:Value} {post:List (Nat×AObj)} {ψ0:Env} {S1:Nat->Prop} {w0:World} {st st2:St} (hl:LeSt st st2) (a:st2.heap=(g, .was ψ0 ids S1 w0)::post) (hi:st2.ids=g::ids') (hd:st2.dfr=[]):
    hQ T rs g ids (.pan v) post ids' ψ0 S1 w0 (.panic [{ v:=v,recovered:=false }]) st:=⟨st2,hl,a,hi,hd,rfl⟩
theorem k7g (e : TOk P T) {f : FuncId} {fn : Func} {c : Code} {args : List AV} {pre : List (Nat × AObj)} {ids : List Nat} {E : HEnd} {post : List (Nat × AObj)} {ids' : List Nat} {g : Nat} (i : P.funcs[f]? = some fn) (j : fn.body = some c) (hn : (fn.name == "runtime.NumGoroutine") = false)
    (a:Nat.ble args.length fn.ntmps=true) (k:ids.contains g=false) (b:ids'.contains g=false) (d:(post.all fun p=>okO ids' p.2)=true) (l:E.ok ids'=true) (hk:(post.all fun p=>ids'.contains p.1)=true)
    (h:∀ ψ0 S1 w0,awp P c { n:=fn.ntmps,tmps:=argT 0 args,heap:=(g, .was ψ0 ids S1 w0)::pre,ids:=g::ids } (hQ T fn.results.toList g ids E post ids' ψ0 S1 w0)):HCall P f args pre ids E post ids':=
  k8z e i j hn a k (fun ψ0 S1 w0=>kvt (h ψ0 S1 w0)) b d l hk
end Go.Proofs.YtjpkdegjcilndaaGreatDoor
