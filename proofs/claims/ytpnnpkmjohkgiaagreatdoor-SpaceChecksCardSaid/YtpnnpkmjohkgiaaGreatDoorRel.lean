import Derived.Test.YtpnnpkmjohkgiaaGreatDoorProg
import Derived.Test.YtpnnpkmjohkgiaaGreatDoorRows
import Derived.Lib.LaidTab
import Derived.LaidLaws
import Derived.LaidHandle
import Derived.OpenShut
import Derived.ChangeSame
import Derived.WalkKit
import Derived.WalkSpells
import Derived.WalkLawsBesides
import Derived.Lib.Hide
import Derived.KernelRfl
namespace Go.Proofs.YtpnnpkmjohkgiaaGreatDoor
abbrev BA:=ByteArray
theorem qa.{u0}:type_of% @List.getElem?_eq_getElem.{u0}:=@List.getElem?_eq_getElem.{u0}
theorem qb.{u0,u1}:type_of% @Option.bind_some.{u0,u1}:=@Option.bind_some.{u0,u1}
theorem qc.{u0}:type_of% @Option.some.injEq.{u0}:=@Option.some.injEq.{u0}
theorem qd.{u0}:type_of% @cond_true.{u0}:=@cond_true.{u0}
theorem qe.{u0}:type_of% @cond_false.{u0}:=@cond_false.{u0}
theorem qf.{u0,u1,u2}:type_of% @Sum.elim_inl.{u0,u1,u2}:=@Sum.elim_inl.{u0,u1,u2}
theorem qg.{u0}:type_of% @List.getElem?_eq_some_iff.{u0}:=@List.getElem?_eq_some_iff.{u0}
theorem qh:type_of% @Nat.eq_of_beq_eq_true:=@Nat.eq_of_beq_eq_true
theorem qi:type_of% @decide_eq_false:=@decide_eq_false
theorem qj.{u0,u1,u2}:type_of% @Sum.elim_inr.{u0,u1,u2}:=@Sum.elim_inr.{u0,u1,u2}
theorem qk:type_of% @decide_eq_true:=@decide_eq_true
theorem ql.{u0}:type_of% @if_neg.{u0}:=@if_neg.{u0}
theorem qm.{u0,u1}:type_of% @Prod.mk.injEq.{u0,u1}:=@Prod.mk.injEq.{u0,u1}
theorem qn:type_of% @Nat.le_of_ble_eq_true:=@Nat.le_of_ble_eq_true
theorem qo.{u0}:type_of% @List.all_eq_true.{u0}:=@List.all_eq_true.{u0}
theorem qp:type_of% @Bool.and_eq_true:=@Bool.and_eq_true
theorem qq.{u0}:type_of% @if_pos.{u0}:=@if_pos.{u0}
theorem qr.{u0,u1}:type_of% @Option.map_eq_some_iff.{u0,u1}:=@Option.map_eq_some_iff.{u0,u1}
theorem qs.{u0}:type_of% @List.getElem_mem.{u0}:=@List.getElem_mem.{u0}
theorem qt.{u0}:type_of% @List.mem_of_getElem?.{u0}:=@List.mem_of_getElem?.{u0}
theorem qu.{u0}:type_of% @List.mem_cons_of_mem.{u0}:=@List.mem_cons_of_mem.{u0}
theorem qv.{u0,u1}:type_of% @List.getElem?_map.{u0,u1}:=@List.getElem?_map.{u0,u1}
theorem qw.{u0}:type_of% @List.getElem?_take.{u0}:=@List.getElem?_take.{u0}
theorem qx.{u0,u1}:type_of% @Option.bind_eq_some_iff.{u0,u1}:=@Option.bind_eq_some_iff.{u0,u1}
theorem qy:type_of% @Nat.le_refl:=@Nat.le_refl
theorem q9.{u0}:type_of% @List.mem_cons_self.{u0}:=@List.mem_cons_self.{u0}
theorem qaa.{u0}:type_of% @List.getElem?_append_left.{u0}:=@List.getElem?_append_left.{u0}
theorem qab.{u0}:type_of% @Option.some.inj.{u0}:=@Option.some.inj.{u0}
theorem qac.{u0}:type_of% @List.mem_iff_getElem.{u0}:=@List.mem_iff_getElem.{u0}
theorem qad.{u0}:type_of% @List.getElem?_drop.{u0}:=@List.getElem?_drop.{u0}
theorem qae.{u0}:type_of% @List.getElem?_append_right.{u0}:=@List.getElem?_append_right.{u0}
theorem qaf.{u0}:type_of% @Option.getD_some.{u0}:=@Option.getD_some.{u0}
theorem qag:type_of% @Nat.zero_le:=@Nat.zero_le
theorem qah:type_of% @Bool.false_ne_true:=@Bool.false_ne_true
theorem qai.{u0}:type_of% @Array.getElem?_toList.{u0}:=@Array.getElem?_toList.{u0}
theorem qaj.{u0}:type_of% @List.mem_iff_getElem?.{u0}:=@List.mem_iff_getElem?.{u0}
theorem qak.{u0}:type_of% @List.drop_eq_getElem_cons.{u0}:=@List.drop_eq_getElem_cons.{u0}
theorem qal.{u0}:type_of% @Array.getD_eq_getD_getElem?.{u0}:=@Array.getD_eq_getD_getElem?.{u0}
theorem qam.{u0}:type_of% @List.length_take.{u0}:=@List.length_take.{u0}
theorem qan.{u0}:type_of% @List.eq_nil_of_length_eq_zero.{u0}:=@List.eq_nil_of_length_eq_zero.{u0}
theorem qao.{u0}:type_of% @List.mem_append.{u0}:=@List.mem_append.{u0}
theorem qap:type_of% @Nat.le_trans:=@Nat.le_trans
theorem qaq.{u0}:type_of% @Array.getElem?_eq_some_iff.{u0}:=@Array.getElem?_eq_some_iff.{u0}
theorem qar.{u0}:type_of% @beq_eq_false_iff_ne.{u0}:=@beq_eq_false_iff_ne.{u0}
theorem qas.{u0}:type_of% @Array.length_toList.{u0}:=@Array.length_toList.{u0}
theorem qat.{u0,u1}:type_of% @List.length_map.{u0,u1}:=@List.length_map.{u0,u1}
theorem qau.{u0,u1}:type_of% @List.mem_map.{u0,u1}:=@List.mem_map.{u0,u1}
theorem qav:type_of% @Nat.lt_or_ge:=@Nat.lt_or_ge
theorem qaw.{u0}:type_of% @List.mem_cons.{u0}:=@List.mem_cons.{u0}
theorem qax.{u0}:type_of% @List.getElem?_eq_none.{u0}:=@List.getElem?_eq_none.{u0}
theorem qay:type_of% @Nat.mul_le_mul_right:=@Nat.mul_le_mul_right
theorem qaz.{u0}:type_of% @List.mem_of_mem_drop.{u0}:=@List.mem_of_mem_drop.{u0}
theorem qa0:type_of% @Nat.add_mul:=@Nat.add_mul
theorem qa1.{u0,u1}:type_of% @Option.map_some.{u0,u1}:=@Option.map_some.{u0,u1}
theorem qa2.{u0,u1}:type_of% @List.map_cons.{u0,u1}:=@List.map_cons.{u0,u1}
theorem qa3:type_of% @decide_eq_true_eq:=@decide_eq_true_eq
theorem qa4.{u0}:type_of% @List.mem_of_mem_take.{u0}:=@List.mem_of_mem_take.{u0}
theorem qa5.{u0}:type_of% @List.drop_eq_nil_of_le.{u0}:=@List.drop_eq_nil_of_le.{u0}
theorem qa6:type_of% @Nat.lt_of_lt_of_le:=@Nat.lt_of_lt_of_le
theorem qa7.{u0}:type_of% @List.length_drop.{u0}:=@List.length_drop.{u0}
theorem qa8.{u0}:type_of% @Array.getElem?_append_left.{u0}:=@Array.getElem?_append_left.{u0}
theorem qa9:type_of% @Bool.not_true:=@Bool.not_true
theorem qba.{u0}:type_of% @Array.getElem?_eq_getElem.{u0}:=@Array.getElem?_eq_getElem.{u0}
theorem qbb.{u0}:type_of% @List.mem_singleton.{u0}:=@List.mem_singleton.{u0}
theorem qbc.{u0}:type_of% @bne_eq_false_iff_eq.{u0}:=@bne_eq_false_iff_eq.{u0}
theorem qbd.{u0}:type_of% @Array.ext'.{u0}:=@Array.ext'.{u0}
theorem qbe:type_of% @decide_eq_false_iff_not:=@decide_eq_false_iff_not
theorem qbf:type_of% @Nat.blt_eq:=@Nat.blt_eq
set_option linter.all false
set_option maxRecDepth 100000
open Go Go.RowKit Go.Proofs
def gv0:Array Value:=#[.int .u64 1, .int .u64 10, .int .u64 100, .int .u64 1000, .int .u64 10000, .int .u64 100000, .int .u64 1000000, .int .u64 10000000, .int .u64 100000000, .int .u64 1000000000, .int .u64 10000000000, .int .u64 100000000000, .int .u64 1000000000000, .int .u64 10000000000000, .int .u64 100000000000000, .int .u64 1000000000000000, .int .u64 10000000000000000, .int .u64 100000000000000000, .int .u64 1000000000000000000, .int .u64 10000000000000000000]
def gv2:Array Value:=#[.int .u8 0, .int .u8 1, .int .u8 28, .int .u8 2, .int .u8 29, .int .u8 14, .int .u8 24, .int .u8 3, .int .u8 30, .int .u8 22, .int .u8 20, .int .u8 15, .int .u8 25, .int .u8 17, .int .u8 4, .int .u8 8, .int .u8 31, .int .u8 27, .int .u8 13, .int .u8 23, .int .u8 21, .int .u8 19, .int .u8 16, .int .u8 7, .int .u8 26, .int .u8 12, .int .u8 18, .int .u8 6, .int .u8 11, .int .u8 5, .int .u8 10, .int .u8 9]
def gv3:Array Value:=#[.int .u8 0, .int .u8 1, .int .u8 56, .int .u8 2, .int .u8 57, .int .u8 49, .int .u8 28, .int .u8 3, .int .u8 61, .int .u8 58, .int .u8 42, .int .u8 50, .int .u8 38, .int .u8 29, .int .u8 17, .int .u8 4, .int .u8 62, .int .u8 47, .int .u8 59, .int .u8 36, .int .u8 45, .int .u8 43, .int .u8 51, .int .u8 22, .int .u8 53, .int .u8 39, .int .u8 33, .int .u8 30, .int .u8 24, .int .u8 18, .int .u8 12, .int .u8 5, .int .u8 63, .int .u8 55, .int .u8 48, .int .u8 27, .int .u8 60, .int .u8 41, .int .u8 37, .int .u8 16, .int .u8 46, .int .u8 35, .int .u8 44, .int .u8 21, .int .u8 52, .int .u8 32, .int .u8 23, .int .u8 11, .int .u8 54, .int .u8 26, .int .u8 40, .int .u8 15, .int .u8 34, .int .u8 20, .int .u8 31, .int .u8 10, .int .u8 25, .int .u8 14, .int .u8 19, .int .u8 9, .int .u8 13, .int .u8 8, .int .u8 7, .int .u8 6]
def kwf : List (String × DataW Unit) := [("math/bits.deBruijn32tab", Rows.laid_math_bits_deBruijn32tab), ("math/bits.deBruijn64tab", Rows.laid_math_bits_deBruijn64tab), ("internal/strconv.uint64pow10", Rows.laid_internal_strconv_uint64pow10)]
theorem knj {H:Type} {enc:TypeId×Value->H} {a:Assume} {C:Checked} {os:Os} {f:FuncId} {fn:Func} {s:ChangeSpec} {conds:List PathCond} {apart fresh b again:Bool} {X:World->Array Value->Prop}
  (o:∀ (w w':World) (args:Array Value),w.heap=w'.heap->X w args->X w' args)
  (own:ownKnob C.prog.godebug=none) (started:os.Started) (noInit:C.prog.inits.idxOf? f=none) (k:C.prog.funcs[f]?=some fn)
  (witness:∃ (w:World) (tape:Tape) (i:Input),w.os=os/\(w.forCall tape i).Shaped C.prog/\i.vars=[]/\Input.okWide C.prog (w.forCall tape i) .any w.heap.size f i /\
   ((s.pre enc C.prog fn conds apart (w.forCall tape i).memory i.args/\X (w.forCall tape i).memory i.args)/\sizedMet enc C.prog fn (OpenSpec.ofChange s) apart (w.forCall tape i).memory i.args)/\a.holds C.prog (lone (Frame.enter C.prog f i.args .normal) [] (w.forCall tape i)))
  (contract:∀ (W:World) (base:Nat) (args:Array Value) (ds gs:List (DataW H)) (before:List MemPlace),
   (∀ (j:Nat) t v,fn.params[j]?=some t->args[j]?=some v->Value.okWide C.prog W .any base t v) ->
   DataW.Whole enc C.prog fn.params.toList s.vars apart W args.toList ds gs before->X W args->(DataW.weightsEach C.prog (fn.params.toList++s.plain.varTypes C.prog) (ds++gs)).all (·<=reachBytes)=true ->
   Calls C.prog f args W fun e W'=>∃ v,e = .returned v/\s.post enc C.prog fn apart fresh b again W args v W'):
  ReturnsInHanded a C os f .any (fun w args=>(s.pre enc C.prog fn conds apart w args/\X w args)/\sizedMet enc C.prog fn (OpenSpec.ofChange s) apart w args) (s.post enc C.prog fn apart fresh b again):=by
 refine returnsInHanded_of_calls own started noInit witness ?_;intro w tape i _ p _ l c h;obtain ⟨_,_,_,fn',d,_,_,_,_,g⟩:=l;have e:fn'=fn:=qab (d.symm.trans k);subst e;obtain ⟨⟨⟨ds,gs,before,n,hc⟩,q⟩,r⟩:=c;have m:=DataW.Whole.of_heap (w':=w.forCall tape i) (by rfl) n;refine (contract (w.forCall tape i) w.heap.size i.args ds gs before g m (o _ _ _ (by rfl) q) (r.weights n)).mono fun e W' ⟨v,u,hp⟩=>?_;subst u;exact ChangeSpec.post_blind hp
noncomputable def krn (os:Os):World:=
 let w0:=World.holding Tryz.prog os ⟨#[],#[],[]⟩
 { w0 with heap:=(((w0.heap).modify 0 (fun | Obj.cells _ t fr=>Obj.cells gv0 t fr | o=>o)).modify 2 (fun | Obj.cells _ t fr=>Obj.cells gv2 t fr | o=>o)).modify 3 (fun | Obj.cells _ t fr=>Obj.cells gv3 t fr | o=>o) }
theorem ksl (os:Os) (args:Array Value):laidMetH Tryz.prog kwf ((krn os).forCall (fun _ _=>0) ⟨#[],args,[]⟩).memory:=
 laidMetH_of_parts (laidMet_of_run' 8 (by kernel_rfl) (by kernel_rfl)) (by kernel_rfl)
open Go Go.RowKit
inductive Gd where
 | det (c:Value)
 | rel (G:Value->World->Prop) (h:∀ v w w',G v w->Below w.heap.size w w'->G v w')
def Gd.holds:Gd->Value->World->Prop
 | .det c,v,_=>v=c
 | .rel G _,v,w=>G v w
def RetBy (R:Value->World->Prop) (e:Ending) (w:World):Prop:=∃ u,e = .returned u/\R u w
def kjz (P:Program) (R:Value->World->Prop):Result Next->Prop
 | .ok (.value u) w'=>R u w'
 | .ok .skip w'=>R undef w'
 | .ok (.enter f args) w'=>Calls P f args w' (RetBy R)
 | _=>False
def kdi (P:Program) (o:Oper) (a:Act) (w:World) (R:Value->World->Prop):Prop:=kjz P R ((execOp a.eval o).run P w)
def keg (o:Oper) (j:Nat):Bool:=o.after.toList.any fun e=>e.on == j && Region.binds .any e
def kqr (l:List Oper):Array Nat:=
 l.foldl (fun acc o=>acc.push (o.after.toList.foldl (fun s e=>if Region.binds .any e then s ||| 2 ^ e.on ||| acc.getD e.on 0 else s) 0)) #[]
def relB (l:List Oper) (n s:Nat):Bool:=
 let m:=kqr l
 Region.noSelect l.toArray && decide (n<=l.length) &&
 (l.zipIdx.all fun (o,k)=>o.after.toList.all fun e=>!Region.binds .any e || decide (e.on<k)) &&
 ((l.take n).all fun o=>match o.dst with | some d=>decide (d<s) | none=>true) &&
 ((l.take n).zipIdx.all fun (o,i)=>(l.take n).zipIdx.all fun (p,j)=>i == j || o.dst.isNone || o.dst != p.dst) &&
 ((l.take n).zipIdx.all fun (o,i)=>(o.looksAt l.toArray).all fun t=>(l.take n).zipIdx.all fun (p,j)=>i == j || p.dst != some t || keg o j || keg p i) &&
 (l.zipIdx.all fun (_,k)=>decide (k<n) || (List.range k).all fun j=>(m.getD k 0).testBit j)
section
variable {P:Program}
theorem kjn {o:Oper} {a:Act} {w:World} {R R':Value->World->Prop} (h:∀ v w',R v w'->R' v w') (b:kdi P o a w R):kdi P o a w R':=by
 unfold kdi at *
 generalize (execOp a.eval o).run P w=r at *
 cases r with
 | ok n w'=>
  cases n <;> simp only [kjz] at b ⊢
  case enter f args=>exact b.mono fun e w'' ⟨u,c,d⟩=>⟨u,c,h _ _ d⟩
  all_goals exact h _ _ b
 | halt x w'=>simp only [kjz] at b
theorem kdy {o:Oper} {a:Act} {w:World} {R:Value->World->Prop} {K:Act->World->Prop} {Q:Exit->Act->World->Prop}
  (h:∀ v w',R v w'->K (a.put o.dst v) w') (b:kdi P o a w R):o.wp P a w K Q:=by
 unfold kdi at b;unfold Oper.wp;generalize (execOp a.eval o).run P w=r at *
 cases r with
 | ok n w'=>
  cases n <;> simp only [kjz] at b <;> simp only [Oper.upon]
  case enter f args=>exact b.mono fun e w'' ⟨u,c,d⟩=>by subst c;exact h _ _ d
  all_goals exact h _ _ b
 | halt x w'=>simp only [kjz] at b
def Good (l:List Oper) (acc:Array Nat):Prop:=
 acc.size=l.length/\∀ k o,l[k]?=some o->∀ j,(acc.getD k 0).testBit j=true ->
  ∃ e∈o.after,Region.binds .any e=true/\(e.on=j\/(e.on<k/\(acc.getD e.on 0).testBit j=true))
theorem kr5 (acc:Array Nat) (j:Nat):∀ (es:List Edge) (s:Nat),
  (es.foldl (fun s e=>if Region.binds .any e then s ||| 2 ^ e.on ||| acc.getD e.on 0 else s) s).testBit j=true ->
  s.testBit j=true\/∃ e∈es,Region.binds .any e=true/\(e.on=j\/(acc.getD e.on 0).testBit j=true)
 | [],s,h => .inl h
 | e::es,s,h=>by
  simp only [List.foldl_cons] at h;rcases kr5 acc j es _ h with h | ⟨e',b,a,h⟩
  ·by_cases a:Region.binds .any e=true
   ·rw [qq a,Nat.testBit_or,Nat.testBit_or,Bool.or_eq_true,Bool.or_eq_true] at h;rcases h with (h | h) | h;exact .inl h;rw [Nat.testBit_two_pow] at h;exact .inr ⟨e,by simp,a, .inl (by simpa using h)⟩
    ·exact .inr ⟨e,by simp,a, .inr h⟩
   ·rw [ql a] at h;exact .inl h
  ·exact .inr ⟨e',qu _ b,a,h⟩
theorem kzl {l:List Oper} {acc:Array Nat} (h:Good l acc) (o:Oper):
  Good (l++[o]) (acc.push (o.after.toList.foldl (fun s e=>if Region.binds .any e then s ||| 2 ^ e.on ||| acc.getD e.on 0 else s) 0)):=by
 obtain ⟨hs,q⟩:=h;refine ⟨by simp [hs],fun k p hk j c=>?_⟩;have old:∀ i,i<acc.size->∀ x,(acc.push x).getD i 0=acc.getD i 0:=fun i hi x=>by simp [Array.getElem?_push,Nat.ne_of_lt hi]
 by_cases d:k<l.length;rw [qaa d] at hk;rw [old k (by omega)] at c;obtain ⟨e,f,g,h⟩:=q k p hk j c;refine ⟨e,f,g,h.imp id fun ⟨h1,r⟩=>⟨h1,?_⟩⟩;rw [old _ (by omega)];exact r
 ·have a:k=l.length:=by have:=(qg.1 hk).1;simp at this;omega
  subst a;simp at hk;subst hk;have b:∀ x,(acc.push x).getD l.length 0=x:=fun x=>by rw [<- hs];simp
  rw [b] at c;rcases kr5 acc j _ 0 c with h | ⟨e,f,g,h⟩;simp at h
  ·refine ⟨e,by simpa using f,g,?_⟩;rcases h with h | h;exact .inl h
   ·have m:e.on<acc.size:=by
     rcases qav e.on acc.size with n | n;exact n
     ·simp [Array.getElem?_eq_none n] at h
    exact .inr ⟨by omega,by rw [old _ m];exact h⟩
theorem krz:∀ (l r:List Oper) (acc:Array Nat),Good r acc ->
  Good (r++l) (l.foldl (fun acc o=>acc.push (o.after.toList.foldl (fun s e=>if Region.binds .any e then s ||| 2 ^ e.on ||| acc.getD e.on 0 else s) 0)) acc)
 | [],r,acc,h=>by simpa using h
 | o::l,r,acc,h=>by have:=krz l (r++[o]) _ (kzl h o);simpa using this
theorem kx7 (l:List Oper):Good l (kqr l):=by exact krz l [] #[] ⟨rfl,fun k o h=>by simp at h⟩
theorem kfb {l:List Oper} {S:Nat->Prop} (hS:∀ k o,S k->l[k]?=some o->∀ e∈o.after,Region.binds .any e=true->S e.on):
  ∀ (k:Nat) (o:Oper),l[k]?=some o->(∀ e∈o.after,Region.binds .any e=true->S e.on)->∀ j,((kqr l).getD k 0).testBit j=true->S j:=by
 intro k
 induction k using Nat.strongRecOn with
 | _ k ih=>
  intro o g a j n;obtain ⟨e,i,m,h⟩:=(kx7 l).2 k o g j n;rcases h with rfl | ⟨c,h⟩;exact a e i m
  ·have hk:k<l.length:=(qg.1 g).1;have b:l[e.on]?=some (l[e.on]'(by omega)):=qa (by omega);exact ih e.on c _ b (fun e' d f=>hS e.on _ (a e i m) b e' d f) j h
theorem kpb (a:Act) (d:Option Tmp) (v:Value):(a.put d v).tmps.size=a.tmps.size:=by cases d <;> simp [Act.put]
theorem kll (a:Act) (d:Option Tmp) (v:Value):(a.put d v).defers=a.defers:=by cases d <;> rfl
variable {gs:List Gd} {l:List Oper} {xs:Nat->Value} {a0:Act}
theorem kix {m:Nat} {listed:Array Bool} {i:Nat} (hi:i<m) (d:listed.getD i true=false) (hs:i<listed.size):
  ((List.range m).countP fun k=>!(listed.setIfInBounds i true).getD k true)<(List.range m).countP fun k=>!listed.getD k true:=by
 have a:List.range m=List.range i++i::(List.range (m - (i+1))).map (i+1+·):=by rw [show m=i+1+(m - (i+1)) by omega,List.range_add,List.range_succ];simp
 have b:∀ L:List Nat,(L.countP fun k=>!(listed.setIfInBounds i true).getD k true)<=L.countP fun k=>!listed.getD k true:=fun L=>by
  refine List.countP_mono_left fun k _ hk=>?_;by_cases c:i=k;subst c;simp [hs] at hk
  ·rw [getD_set_ne true c] at hk;exact hk
 rw [a,List.countP_append,List.countP_append,List.countP_cons,List.countP_cons];have h1:=b (List.range i);have f:=b ((List.range (m - (i+1))).map (i+1+·));have e:(listed.setIfInBounds i true).getD i true=true:=by simp [hs]
 rw [e,d];simp only [qa9,Bool.not_false,if_true,Bool.false_eq_true,if_false];omega
structure k3d (l:List Oper) (n s:Nat):Prop where
 sel:Region.noSelect l.toArray=true
 len:n<=l.length
 edges:∀ k o,l[k]?=some o->∀ e∈o.after,Region.binds .any e=true->e.on<k
 dst:∀ i o d,i<n->l[i]?=some o->o.dst=some d->d<s
 uniq:∀ i j o p d,i<n->j<n->l[i]?=some o->l[j]?=some p->o.dst=some d->p.dst=some d->i=j
 looks:∀ i j o p t,i<n->j<n->i≠j->l[i]?=some o->l[j]?=some p->t∈o.looksAt l.toArray->p.dst=some t->keg o j=true\/keg p i=true
 tail:∀ k j,k<l.length->n<=k->j<k->((kqr l).getD k 0).testBit j=true
theorem krd {l:List Oper} {n s:Nat} (h:relB l n s=true):k3d l n s:=by
 simp only [relB,qp] at h;obtain ⟨⟨⟨⟨⟨⟨h1,c⟩,r⟩,u⟩,v⟩,w⟩,x⟩:=h;have c:n<=l.length:=by simpa using c
 have tk:∀ i o,i<n->l[i]?=some o->(o,i)∈(l.take n).zipIdx:=fun i o hi a=>by rw [List.mk_mem_zipIdx_iff_getElem?,qw,qq hi];exact a
 refine ⟨h1,c,?_,?_,?_,?_,?_⟩;intro k o a e y z;have:=qo.1 r (o,k) (by rw [List.mk_mem_zipIdx_iff_getElem?];exact a);have:=qo.1 this e (by simpa using y);simpa [z] using this;intro i o d hi a A;have:=qo.1 u o (qt (i:=i) (by rw [qw,qq hi];exact a));simpa [A] using this;intro i j o p d hi f a hp g b;have:=qo.1 (qo.1 v _ (tk i o hi a)) _ (tk j p f hp);simpa [g,b] using this;intro i j o p t hi f m a hp ht b;have:=qo.1 (qo.1 (qo.1 w _ (tk i o hi a)) t ht) _ (tk j p f hp);simpa [b,m] using this
 ·intro k j hk B q;have:=qo.1 x (l[k],k) (by rw [List.mk_mem_zipIdx_iff_getElem?];exact qa hk);simp only [Bool.or_eq_true,qa3] at this;exact qo.1 (this.resolve_left (by omega)) j (by simpa using q)
theorem afterB_iff {o:Oper} {j:Nat}:keg o j=true↔∃ e∈o.after,e.on=j/\Region.binds .any e=true:=by unfold keg;rw [List.any_eq_true];simp
theorem kg2 {l:List Oper} {n s:Nat} (ok:k3d l n s) {Q:Exit->Act->World->Prop}:∀ (fuel k:Nat) (listed:Array Bool) (a:Act) (w:World),
  n<=k->k<=l.length->listed.size=l.length->(∀ i,i<l.length->(listed.getD i true=true↔i<k))->l.length - k<=fuel ->
  wpList P l.toArray Q (l.drop k) a w->wpAny P .any l.toArray Q fuel listed a w:=by
 intro fuel
 induction fuel with
 | zero=>
  intro k listed a w B C d b g h;have hk:k=l.length:=by omega
  subst hk;refine ⟨?_,by simpa [wpList] using h⟩;rw [List.eq_nil_iff_forall_not_mem];intro i hi;obtain ⟨h0,o,q,_⟩:=mem_ready.1 hi;have c:i<l.length:=by simpa using (qaq.1 q).1
  rw [(b i c).2 c] at h0;cases h0
 | succ fuel ih=>
  intro k listed a w B C d b g h;have u:∀ i,i<l.length->i<k->listed.getD i false=true:=fun i hi D=>by have h1:=(b i hi).2 D;simp [d,hi] at h1 ⊢;exact h1
  have only:∀ i∈Region.ready .any l.toArray listed,i=k/\k<l.length:=fun i hi=>by
   obtain ⟨h0,o,q,v⟩:=mem_ready.1 hi;have c:i<l.length:=(by simpa using (qaq.1 q).1);have E:k<=i:=by
    rcases qav i k with f | f;rw [(b i c).2 f] at h0;cases h0
    ·exact f
   refine ⟨?_,by omega⟩;rcases qav k i with f | f
   ·exfalso;have hS:=kfb (l:=l) (S:=fun j=>j<i/\listed.getD j false=true) ?_ i o (by simpa using q) ?_ k (ok.tail i k c (by omega) f);have:=(b k (by omega)).1 (by have:=hS.2;simp [d,show k<l.length by omega] at this ⊢;exact this);omega;intro m p ⟨F,x⟩ hp e r t;have y:=ok.edges m p hp e r t;refine ⟨by omega,?_⟩;have G:=(b m (by omega)).1 (by simp [d,show m<l.length by omega] at x ⊢;exact x);exact u _ (by omega) (by omega)
    ·intro e r t;exact ⟨ok.edges i o (by simpa using q) e r t,v e r t⟩
   ·omega
  refine ⟨fun z=>?_,fun i hi=>?_⟩
  ·have hk:k=l.length:=by
    rcases qav k l.length with f | f;exfalso;have:k∈Region.ready .any l.toArray listed:=mem_ready.2 ⟨by have:=mt (b k f).1 (by omega);simpa using this,l[k],by simp [f],fun e r t=>by have y:=ok.edges k _ (qa f) e r t;exact u _ (by omega) y⟩;rw [z] at this;cases this
    ·omega
   subst hk;simpa [wpList] using h
  ·obtain ⟨rfl,c⟩:=only i hi;rw [qak c] at h;have q:l.toArray[i]?=some l[i]:=(by simp [c]);have H:wpOp P l.toArray Q i (wpList P l.toArray Q (l.drop (i+1))) a w:=(by unfold wpOp;simp only [q];exact h);refine wpOp_mono (fun a' w' f=>ih (i+1) _ a' w' (by omega) (by omega) (by simp [d]) (fun j I=>?_) (by omega) f) H;by_cases A:i=j;subst A;simp [d,c]
   ·rw [getD_set_ne true A,b j I];omega
structure k6s (gs:List Gd) (l:List Oper) (C:World->Prop) (a0:Act) (listed:Array Bool) (a:Act) (w:World):Prop where
 inC:C w
 defers:a.defers=a0.defers
 size:a.tmps.size=a0.tmps.size
 lsize:listed.size=l.length
 closed:∀ k o,listed.getD k false=true->l[k]?=some o->∀ e∈o.after,Region.binds .any e=true->listed.getD e.on false=true
 vals:∃ xs:Nat->Value,∀ j g,gs[j]?=some g->listed.getD j false=true->g.holds (xs j) w/\∀ o d,l[j]?=some o->o.dst=some d->a.tmps[d]?=some (xs j)
 rest:∀ t,(∀ j o,listed.getD j false=true->l[j]?=some o->o.dst≠some t)->a.tmps[t]?=a0.tmps[t]?
theorem kqz {listed:Array Bool} {i:Nat} (h:listed.getD i true=false):listed.getD i false=false:=by
 rcases qav i listed.size with a | a;simp [a] at h ⊢; exact h
 ·simp [Array.getElem?_eq_none a]
theorem kx8 {listed:Array Bool} {i:Nat} (h:listed.getD i false=true):i<listed.size:=by
 rcases qav i listed.size with a | a;exact a
 ·simp [Array.getElem?_eq_none a] at h
theorem kfq (m j:Nat):(Array.replicate m false).getD j false=false:=by rcases qav j m with h | h <;> simp [h]
end
attribute [go_sem] kdi kjz
end Go.Proofs.YtpnnpkmjohkgiaaGreatDoor
