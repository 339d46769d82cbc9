import Derived.Test.YtaimpcnpifoidaaGreatDoorTT
import Derived.Test.YtaimpcnpifoidaaGreatDoorRows
import Derived.Lib.LaidTab
import Derived.LaidLaws
import Derived.LaidHandle
import Derived.OpenShut
import Derived.ChangeSame
set_option linter.unusedVariables false
set_option linter.unusedSimpArgs false
set_option maxRecDepth 100000
namespace Go.Proofs.YtaimpcnpifoidaaGreatDoor
open Go Go.RowKit Go.Proofs
section
variable {P:Program} {H:Type} {enc:TypeId×Value→H} {w:World} {base:Nat} {sp:Nat→Bool} {held:Bool}
theorem kwb {nm:String} {cs:Array Value} {g:Nat} (h:w.var? P nm=some cs) (hg:P.globalNamed nm=some g):∃ e d,w.heap[g]?=some (.cells cs e d):=by
 unfold World.var? at h
 rw [hg,qa] at h
 split at h
 ·rename_i cs' e d hh
  injection h with h
  subst h
  exact ⟨e,d,hh⟩
 ·cases h
theorem kac8 {fuel:Nat} {t e:TypeId} {n:Nat} {k:IntKind} {f0 f1:Field} {cs:List Value} {zs:List (Int×Int)} {p:List MemPlace} (ht:P.underlying t=some (.array n e)) (he:P.underlying e=some (.struct #[f0,f1])) (h0:P.underlying f0.type=some (.int k)) (h1:P.underlying f1.type=some (.int k))
  (o0:f0.offset=0) (o1:f1.offset=1) (c0:P.cellsOf f0.type=1) (c1:P.cellsOf f1.type=1) (hce:P.cellsOf e=2) (hct:P.cellsOf t=2*n)
  (h:DataW.trod enc P w base sp held fuel t cs=some (.agg (zs.map fun z => .agg [.lit (.int k z.1), .lit (.int k z.2)]),p)):cs=zs.flatMap fun z=>[.int k z.1, .int k z.2]:=by
 obtain ⟨xs,m,_,hx,hl,hxl,hel⟩:=DataW.trod_array ht h
 have hxs:zs.map (fun z=>(.agg [.lit (.int k z.1), .lit (.int k z.2)]:DataW H))=xs.map (·.1):=by
  have:=congrArg Prod.fst hx
  simpa using this
 have hzl:zs.length=n:=by have:=congrArg List.length hxs;simp at this;omega
 have one:∀ i (z:Int×Int),zs[i]?=some z→(cs.drop (i*2)).take 2=[.int k z.1, .int k z.2]:=fun i z hz=>by
  have hi:i<n:=by rw [← hzl];exact (List.getElem?_eq_some_iff.1 hz).1
  have e1:=hel i hi
  rw [hce] at e1
  have hxi:xs[i]?=some xs[i]:=List.getElem?_eq_getElem (by omega)
  rw [hxi] at e1
  have hd:(xs[i]'(by omega)).1=(.agg [.lit (.int k z.1), .lit (.int k z.2)]:DataW H):=by
   have:=congrArg (·[i]?) hxs
   simp only [List.getElem?_map,hz,hxi,qa6,qh] at this
   exact this.symm
  obtain ⟨y0,y1,q,hy,hlen,t0,t1⟩:=Go.ChangeShapes.trod_struct2 he e1
  rw [o0,c0] at t0
  rw [o1,c1] at t1
  obtain ⟨a,ha,rfl,_⟩:=DataW.trod_int h0 t0
  obtain ⟨b,hb,rfl,_⟩:=DataW.trod_int h1 t1
  rw [hy] at hd
  simp only [DataW.agg.injEq,List.cons.injEq,DataW.lit.injEq,Lit.int.injEq,true_and,and_true] at hd
  obtain ⟨rfl,rfl⟩:=hd
  rw [hce] at hlen
  generalize (cs.drop (i*2)).take 2=l at *
  match l,hlen with
  | [u,v],_=>
   simp at ha hb
   rw [ha,hb]
 have key:∀ (zs:List (Int×Int)) (cs:List Value),cs.length=2*zs.length→(∀ i (z:Int×Int),zs[i]?=some z→(cs.drop (i*2)).take 2=[.int k z.1, .int k z.2])→cs=zs.flatMap fun z=>[.int k z.1, .int k z.2]:=by
  intro zs
  induction zs with
  | nil=>intro cs h _;exact qz (by simpa using h)
  | cons z zs ih=>
   intro cs h hz
   match cs,h with
   | u::v::cs,h=>
    have e:=hz 0 z rfl
    simp at e
    rw [qal,← ih cs (by simp at h;omega) fun i y hy=>by
     have:=hz (i+1) y (by simpa using hy)
     rw [Nat.add_mul,Nat.one_mul,← List.drop_drop] at this
     rw [show (u::v::cs).drop (i*2)=(u::v::cs).drop (i*2) from rfl,List.drop_drop] at this
     rw [show i*2+2=(i*2)+1+1 from rfl,List.drop_succ_cons,List.drop_succ_cons] at this
     exact this]
    rw [e.1,e.2]
    rfl
   | [_],h=>simp at h;omega
   | [],h=>simp at h
 exact key zs cs (by rw [hl,hct,hzl]) one
end
theorem gl4_n : Tryz.prog.globalNamed "math/bits.deBruijn32tab" = some 4 := by kernel_rfl
theorem gl4_t:(Tryz.prog.globals[4]?).map (·.type)=some 250:=by kernel_rfl
theorem gl4_d:(Rows.laid_math_bits_deBruijn32tab:DataW Unit)=Lib.tabData .u8 gt4:=by kernel_rfl
theorem gl4_c:(gt4.map fun z=>Value.int .u8 z).toArray=gv4:=by kernel_rfl
theorem gl4_v {W : World} {cs : Array Value} {fuel : Nat} {p : List MemPlace} (hv : W.var? Tryz.prog "math/bits.deBruijn32tab" = some cs) (h : DataW.trod (fun _ => ()) Tryz.prog W 0 (fun _ => true) false fuel 250 cs.toList = some (Rows.laid_math_bits_deBruijn32tab, p)) : ∃ e d, W.heap[4]? = some (.cells gv4 e d) := by
 rw [gl4_d] at h
 have:=Lib.cells_of_tab Tryz.underlying250 Tryz.underlying5 (by kernel_rfl) (by kernel_rfl) h
 have e:cs=gv4:=by rw [← gl4_c,← this]
 rw [e] at hv
 exact kwb hv gl4_n
theorem gl5_n : Tryz.prog.globalNamed "math/bits.deBruijn64tab" = some 5 := by kernel_rfl
theorem gl5_t:(Tryz.prog.globals[5]?).map (·.type)=some 251:=by kernel_rfl
theorem gl5_d:(Rows.laid_math_bits_deBruijn64tab:DataW Unit)=Lib.tabData .u8 gt5:=by kernel_rfl
theorem gl5_c:(gt5.map fun z=>Value.int .u8 z).toArray=gv5:=by kernel_rfl
theorem gl5_v {W : World} {cs : Array Value} {fuel : Nat} {p : List MemPlace} (hv : W.var? Tryz.prog "math/bits.deBruijn64tab" = some cs) (h : DataW.trod (fun _ => ()) Tryz.prog W 0 (fun _ => true) false fuel 251 cs.toList = some (Rows.laid_math_bits_deBruijn64tab, p)) : ∃ e d, W.heap[5]? = some (.cells gv5 e d) := by
 rw [gl5_d] at h
 have:=Lib.cells_of_tab Tryz.underlying251 Tryz.underlying5 (by kernel_rfl) (by kernel_rfl) h
 have e:cs=gv5:=by rw [← gl5_c,← this]
 rw [e] at hv
 exact kwb hv gl5_n
theorem gl1_n : Tryz.prog.globalNamed "internal/strconv.uint64pow10" = some 1 := by kernel_rfl
theorem gl1_t:(Tryz.prog.globals[1]?).map (·.type)=some 236:=by kernel_rfl
theorem gl1_d:(Rows.laid_internal_strconv_uint64pow10:DataW Unit)=Lib.tabData .u64 gt1:=by kernel_rfl
theorem gl1_c:(gt1.map fun z=>Value.int .u64 z).toArray=gv1:=by kernel_rfl
theorem gl1_v {W : World} {cs : Array Value} {fuel : Nat} {p : List MemPlace} (hv : W.var? Tryz.prog "internal/strconv.uint64pow10" = some cs) (h : DataW.trod (fun _ => ()) Tryz.prog W 0 (fun _ => true) false fuel 236 cs.toList = some (Rows.laid_internal_strconv_uint64pow10, p)) : ∃ e d, W.heap[1]? = some (.cells gv1 e d) := by
 rw [gl1_d] at h
 have:=Lib.cells_of_tab Tryz.underlying236 Tryz.underlying218 (by kernel_rfl) (by kernel_rfl) h
 have e:cs=gv1:=by rw [← gl1_c,← this]
 rw [e] at hv
 exact kwb hv gl1_n
theorem gl3_n : Tryz.prog.globalNamed "unicode/utf8.acceptRanges" = some 3 := by kernel_rfl
theorem gl3_t:(Tryz.prog.globals[3]?).map (·.type)=some 249:=by kernel_rfl
def gp3:List (Int×Int):=[(128,191),(160,191),(128,159),(144,191),(128,143),(0,0),(0,0),(0,0),(0,0),(0,0),(0,0),(0,0),(0,0),(0,0),(0,0),(0,0)]
theorem gl3_d:(Rows.laid_unicode_utf8_acceptRanges:DataW Unit) = .agg (gp3.map fun z => .agg [.lit (.int .u8 z.1), .lit (.int .u8 z.2)]):=by kernel_rfl
theorem gl3_c:(gp3.flatMap fun z=>[Value.int .u8 z.1,Value.int .u8 z.2]).toArray=gv3:=by kernel_rfl
theorem gl3_v {W : World} {cs : Array Value} {fuel : Nat} {p : List MemPlace} (hv : W.var? Tryz.prog "unicode/utf8.acceptRanges" = some cs) (h : DataW.trod (fun _ => ()) Tryz.prog W 0 (fun _ => true) false fuel 249 cs.toList = some (Rows.laid_unicode_utf8_acceptRanges, p)) : ∃ e d, W.heap[3]? = some (.cells gv3 e d) := by
 rw [gl3_d] at h
 have:=kac8 Tryz.underlying249 Tryz.underlying248 Tryz.underlying5 Tryz.underlying5 rfl rfl (by kernel_rfl) (by kernel_rfl) (by kernel_rfl) (by kernel_rfl) h
 have e:cs=gv3:=by rw [← gl3_c,← this]
 rw [e] at hv
 exact kwb hv gl3_n
theorem gl2_n : Tryz.prog.globalNamed "unicode/utf8.first" = some 2 := by kernel_rfl
theorem gl2_t:(Tryz.prog.globals[2]?).map (·.type)=some 246:=by kernel_rfl
theorem gl2_d:(Rows.laid_unicode_utf8_first:DataW Unit)=Lib.tabData .u8 gt2:=by kernel_rfl
theorem gl2_c:(gt2.map fun z=>Value.int .u8 z).toArray=gv2:=by kernel_rfl
theorem gl2_v {W : World} {cs : Array Value} {fuel : Nat} {p : List MemPlace} (hv : W.var? Tryz.prog "unicode/utf8.first" = some cs) (h : DataW.trod (fun _ => ()) Tryz.prog W 0 (fun _ => true) false fuel 246 cs.toList = some (Rows.laid_unicode_utf8_first, p)) : ∃ e d, W.heap[2]? = some (.cells gv2 e d) := by
 rw [gl2_d] at h
 have:=Lib.cells_of_tab Tryz.underlying246 Tryz.underlying5 (by kernel_rfl) (by kernel_rfl) h
 have e:cs=gv2:=by rw [← gl2_c,← this]
 rw [e] at hv
 exact kwb hv gl2_n
def kwk : List (String × DataW Unit) := [("math/bits.deBruijn32tab", Rows.laid_math_bits_deBruijn32tab), ("math/bits.deBruijn64tab", Rows.laid_math_bits_deBruijn64tab), ("internal/strconv.uint64pow10", Rows.laid_internal_strconv_uint64pow10), ("unicode/utf8.acceptRanges", Rows.laid_unicode_utf8_acceptRanges), ("unicode/utf8.first", Rows.laid_unicode_utf8_first)]
theorem kajx {W:World} (h:W.ShapedOpen Tryz.prog):GlbR W 0 #[]:=by
 obtain ⟨m,hm⟩:=Go.Proofs.cell_of_shapedOpen_int (zero:=#[.int .i64 0]) (g:=0) (t:=3) (k := .i64) h (q9 (by kernel_rfl)) (by kernel_rfl) rfl (by kernel_rfl) (by kernel_rfl) Tryz.underlying3
 obtain ⟨cs,hh,hs,_⟩:=h.1 0 #[.int .i64 0] 3 (q9 (by kernel_rfl)) (by kernel_rfl)
 refine .inr ⟨rfl,m,3,(0,0),?_⟩
 obtain ⟨l⟩:=cs
 match l,hs with
 | [u],_=>
  simp only [World.cell?,hh] at hm
  have hu:u = .int .i64 m:=by simpa using hm
  rw [hh,hu]
theorem kvo {H:Type} {enc:TypeId×Value→H} {a:Assume} {C:Checked} {os:Os} {f:FuncId} {fn:Func} {s:ChangeSpec} {conds:List PathCond} {apart fresh handsOn again:Bool} {X:World→Array Value→Prop}
  (hX:∀ (w w':World) (args:Array Value),w.heap=w'.heap→X w args→X w' args)
  (own:ownKnob C.prog.godebug=none) (started:os.Started) (noInit:C.prog.inits.idxOf? f=none) (hfn:C.prog.funcs[f]?=some fn)
  (witness:∃ (w:World) (tape:Tape) (i:Input),w.os=os∧(w.forCall tape i).Shaped C.prog∧i.vars=[]∧Input.okWide C.prog (w.forCall tape i) .any w.heap.size f i ∧
   ((s.pre enc C.prog fn conds apart (w.forCall tape i).memory i.args∧X (w.forCall tape i).memory i.args)∧sizedMet enc C.prog fn (OpenSpec.ofChange s) apart (w.forCall tape i).memory i.args)∧a.holds C.prog (lone (Frame.enter C.prog f i.args .normal) [] (w.forCall tape i)))
  (contract:∀ (W:World) (base:Nat) (args:Array Value) (ds gs:List (DataW H)) (before:List MemPlace),
   (∀ (j:Nat) t v,fn.params[j]?=some t→args[j]?=some v→Value.okWide C.prog W .any base t v) →
   DataW.Whole enc C.prog fn.params.toList s.vars apart W args.toList ds gs before→X W args→W.ShapedOpen C.prog →
   Calls C.prog f args W fun e W'=>∃ v,e = .returned v∧s.post enc C.prog fn apart fresh handsOn again W args v W'):
  ReturnsInHanded a C os f .any (fun w args=>(s.pre enc C.prog fn conds apart w args∧X w args)∧sizedMet enc C.prog fn (OpenSpec.ofChange s) apart w args) (s.post enc C.prog fn apart fresh handsOn again):=by
 refine returnsInHanded_of_calls own started noInit witness ?_
 intro w tape i _ hsh _ hok hpre hholds
 obtain ⟨_,_,_,fn',hfn',_,_,_,_,hval⟩:=hok
 have e:fn'=fn:=qp (hfn'.symm.trans hfn)
 subst e
 obtain ⟨⟨⟨ds,gs,before,hw,hc⟩,hx⟩,hz⟩:=hpre
 have hw':=DataW.Whole.of_heap (w':=w.forCall tape i) (by rfl) hw
 refine (contract (w.forCall tape i) w.heap.size i.args ds gs before hval hw' (hX _ _ _ (by rfl) hx) hsh).mono fun e W' ⟨v,he,hp⟩=>?_
 subst he
 exact ChangeSpec.post_blind hp
theorem kako {W:World} (h:laidMetH Tryz.prog kwk W) (hsh:W.ShapedOpen Tryz.prog):∀ p,p∈GV→GlbR W p.1 p.2:=by
 have h:laidMet Tryz.prog kwk W:=h
 obtain ⟨ps,hl,_⟩:=h
 simp only [kwk,DataW.LaidVars] at hl
 obtain ⟨g0,t0,c0,u0,p0,q0,n0,y0,v0,d0,⟨g1,t1,c1,u1,p1,q1,n1,y1,v1,d1,⟨g2,t2,c2,u2,p2,q2,n2,y2,v2,d2,⟨g3,t3,c3,u3,p3,q3,n3,y3,v3,d3,⟨g4,t4,c4,u4,p4,q4,n4,y4,v4,d4,_,_⟩,_⟩,_⟩,_⟩,_⟩:=hl
 obtain rfl:=qp (gl4_t.symm.trans (by rw [qp (gl4_n.symm.trans n0)];exact y0))
 have z4:=gl4_v v0 d0
 obtain rfl:=qp (gl5_t.symm.trans (by rw [qp (gl5_n.symm.trans n1)];exact y1))
 have z5:=gl5_v v1 d1
 obtain rfl:=qp (gl1_t.symm.trans (by rw [qp (gl1_n.symm.trans n2)];exact y2))
 have z1:=gl1_v v2 d2
 obtain rfl:=qp (gl3_t.symm.trans (by rw [qp (gl3_n.symm.trans n3)];exact y3))
 have z3:=gl3_v v3 d3
 obtain rfl:=qp (gl2_t.symm.trans (by rw [qp (gl2_n.symm.trans n4)];exact y4))
 have z2:=gl2_v v4 d4
 intro p hp
 simp only [GV,q8,List.not_mem_nil,or_false] at hp
 rcases hp with rfl | rfl | rfl | rfl | rfl | rfl
 ·exact .inl ⟨q9 (by kernel_rfl),z1⟩
 ·exact .inl ⟨q9 (by kernel_rfl),z2⟩
 ·exact .inl ⟨q9 (by kernel_rfl),z3⟩
 ·exact .inl ⟨q9 (by kernel_rfl),z4⟩
 ·exact .inl ⟨q9 (by kernel_rfl),z5⟩
 ·exact kajx hsh
noncomputable def k1g (os:Os):World:=
 let w0:=World.holding Tryz.prog os ⟨#[],#[],[]⟩
 { w0 with heap:=(((((w0.heap).modify 1 (fun | Obj.cells _ t fr=>Obj.cells gv1 t fr | o=>o)).modify 2 (fun | Obj.cells _ t fr=>Obj.cells gv2 t fr | o=>o)).modify 3 (fun | Obj.cells _ t fr=>Obj.cells gv3 t fr | o=>o)).modify 4 (fun | Obj.cells _ t fr=>Obj.cells gv4 t fr | o=>o)).modify 5 (fun | Obj.cells _ t fr=>Obj.cells gv5 t fr | o=>o) }
theorem k2l (os:Os) (args:Array Value):laidMetH Tryz.prog kwk ((k1g os).forCall (fun _ _=>0) ⟨#[],args,[]⟩).memory:=
 laidMetH_of_parts (laidMet_of_run' 8 (by kernel_rfl) (by kernel_rfl)) (by kernel_rfl)
end Go.Proofs.YtaimpcnpifoidaaGreatDoor
