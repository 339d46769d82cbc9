import Derived.Test.YtdnfbjahbkpibaaGreatDoorEE
import Derived.Test.YtdnfbjahbkpibaaGreatDoorSm
set_option linter.all false
namespace Go.Proofs.YtdnfbjahbkpibaaGreatDoor
open Go Go.RowKit
section
variable {P:Program} {F S0:Nat->Prop} {N0:Nat} {w w':World} {S S':Nat->Prop} {ψ:Env} {K:Nat->Prop} {T:List (TypeId×TD)} {o:Oper} {a:Act} {st:St} {t:TypeId} {d:TD} {id:Nat}
theorem k74 (f:FuncId) (X:Operand) (args:Array Operand) (ts:Array TypeId) (cs:List C1) (ys:List FV) {r:FV} (hp:PCall P f ys r) (j:o.op = .call { callee := .value X,args:=args,argTypes:=ts }:=by kernel_rfl) (hx:st.eval X = .fn f []:=by kernel_rfl) (hc:kmr st cs args.toList=some ys:=by kernel_rfl):NStep P o st (.fz r):=by
 intro ψ S a w ht k;obtain ⟨e1,e2⟩:=kvi ht hc;have c:=Sim.eval_tmps ht X;rw [hx] at c;have hv:a.eval X = .func (.func f) #[] #[]:=by
  generalize a.eval X=u at c;cases c with
  | @fn _ cs _ h _=>
   obtain rfl:cs=#[]:=Array.eq_empty_of_size_eq_zero (by simpa using h);rfl
 have hr:(execOp a.eval o).run P w = .ok (.enter f (args.map a.eval)) w:=by
  obtain ⟨fn,h1,b,g⟩:=hp.1;have d:fn.body≠none:=by intro h;rw [h] at b;cases b
  simp only [qas,ne_eq] at g;simp [execOp,j,resolve,hv,Deferred.ofValue,invoke,callFunc,h1,d,g]
 unfold kdf;rw [hr];refine (hp.2 S w (args.map a.eval) (by simp [e1]) fun i v x hv hx=>?_).mono ?_;simp only [Array.getElem?_map,qq] at hv;obtain ⟨y,hy,rfl⟩:=hv;exact e2 i y x (by simpa using hy) hx
 ·rintro e w' ⟨v,rfl,h1,b⟩;exact ⟨v,rfl,b, .fz h1⟩
theorem kaft (X:Operand) (e e2:TypeId) (size n lo hi:Nat) (xs:List FV) (f:TOk P T) (g:o.op = .call { callee := .builtin .len,args:=#[X],argTypes:=#[t] }) (hd:kad T t=some d) (hk:d.kind = .slice e2) (hx:st.eval X = .win id n lo hi size) (c:kaa st.heap id=some (.frow e size xs)) (hn:n=xs.length):
  NStep P o st (.fz (.atom (.int .i64 ((hi - lo:Nat):Int)))):=by
 intro ψ S a w ht h;have b:=Sim.eval_tmps ht X;rw [hx] at b;obtain ⟨hl,_⟩:=h id _ c;obtain ⟨_,_,A,cap,hv,_⟩:=k0j b (by rw [hl,hn]);refine kae w (.int .i64 ((hi - lo:Nat):Int)) ?_ ⟨kaf _, .fz (.atom rfl)⟩;simp [execOp,g,resolve,invoke,builtin,hv,Builtin.len_,run_underlying ((f.get hd).slice hk),goInt]
theorem kvn (d:TD) (id:Nat) {α:Type} (E:En α) (xs:List α) (j:Int) (X Y:Operand) (e:TypeId) (de:TD) (k:IntKind) (n lo hi:Nat) (h:decide (0<=j/\j<((hi - lo:Nat):Int))=true) (hn:n=xs.length) (q:TOk P T:=by exact tt_ok) (r:o.op = .indexAddr t X Y:=by kernel_rfl) (hd:kad T t=some d:=by kernel_rfl) (hk:d.kind = .slice e:=by kernel_rfl) (i:kad T e=some de:=by kernel_rfl) (s:de.size=E.n:=by kernel_rfl) (hx:st.eval X = .win id n lo hi E.n:=by kernel_rfl) (m:kaa st.heap id=some (.frow e E.n (xs.map E.f)):=by kernel_rfl) (hy:st.eval Y = .fz (.atom (.int k j)):=by kernel_rfl):NStep P o st (.ref id n (((lo:Int)+j).toNat*E.n+0)):=by
 intro ψ S a w ht x;have h:=qbd h;have hd:=q.get hd;have i:=q.get i;have c:=Sim.eval_tmps ht X;rw [hx] at c;have g:=Sim.eval_tmps ht Y;rw [hy] at g;have g:=g.atom;obtain ⟨hl,_,cs,l,_,_⟩:=x id _ m;rw [qt] at hl l;obtain ⟨w1,w2,A,cap,hv,hA⟩:=k0j c (by rw [hl,hn]);obtain ⟨b,y,rfl⟩:=hA (by omega);have p:id∈st.ids:=by
  generalize a.eval X=u at c;cases c with
  | win hK _ _ _=>exact hK
 have z:((lo:Int)+j).toNat=lo+j.toNat:=by omega
 refine kae w (.pointer (some ⟨b,((lo:Int)+j).toNat*E.n+0,none⟩)) ?_ ⟨kaf _, .ref p (by omega) rfl fun _=>⟨b,y,rfl⟩⟩;have h1:j<((hi - lo:Nat):Int):=h.2;simp [execOp,r,hv,g,Instr.indexAt,asIntOf,run_underlying (hd.slice hk),h.1,h1,i.size,s,kbg,z,qa7]
theorem kaae {α:Type} (E:En α) (xs:List α) (z:α) (X:Operand) (e:TypeId) (de:TD) (n lo:Nat) (zs:List Value) (zl:List FV) (hT:TOk P T) (ho:o.op = .call { callee := .builtin .clear,args:=#[X],argTypes:=#[t] }) (hd:kad T t=some d) (hk:d.kind = .slice e) (ah:kad T e=some de) (a2:de.size=E.n) (ai:de.zero=zs) (M:E.cl z=zl) (s:RZ zs zl) (Q:∀ v∈zs,v.oneCell'=true) (hx:st.eval X = .win id n lo n E.n) (R:kaa st.heap id=some (.frow e E.n (xs.map E.f))) (hn:n=xs.length) (aj:lo<n):
  StepA P o st (.fz (.tup [])) ((id, .frow e E.n ((xs.take lo++List.replicate (n - lo) z).map E.f))::st.heap) st.ids:=by
 subst hn;intro F S0 N0 ψ S a w U;have p:=U.core;obtain ⟨a3,⟨hl,G,cs,H,ak,hr⟩,al⟩:=p.obj id _ R;rw [qt] at hl H;obtain ⟨g,cap,cur,r,hg,V,hc2,N,am⟩:=kt4 H;have Y:=U.eval X;rw [hx] at Y;obtain ⟨_,_,A,c0,Z,hA⟩:=k0j Y hl.symm;obtain ⟨b,hb,rfl⟩:=hA aj;have an:b=g:=by rw [r] at hb;simp only [kak,qc] at hb;exact hb.symm
 subst an;obtain ⟨⟨i,z',hi,a4,a5,hz,ao⟩,_⟩:=hT.get ah;have hcl:z'.cells.toList=zs:=by rw [ao,ai]
 have aa:zs.length=E.n:=by rw [<- s.len,<- M,<- E.hcl,E.hn]
 have y:z'.cells.size=E.n:=by rw [<- qaf,hcl,aa]
 have aq:(zeroValue e).run P w = .ok z' w:=by simp [zeroValue,typeInfo,hi,hz]
 obtain ⟨vs,B⟩:∃ vs,vs=(Builtin.zeroCells z'.cells (xs.length - lo)).toList:=⟨_,rfl⟩;have l:vs.length=(xs.length - lo)*E.n:=by rw [B,qaf,size_zeroCells,y]
 have ab:∀ k,k<(xs.length - lo)*E.n->vs[k]?=zs[k % E.n]?:=fun k hk=>by
  have hm:k % E.n<z'.cells.size:=by rw [y];exact Nat.mod_lt _ G
  rw [B,qal];unfold Builtin.zeroCells;rw [Array.getElem?_map,Array.getElem?_range,qo (by rw [y];exact hk)];simp only [qa3,y];rw [<- hcl,qal];simp [hm]
 have ar:∀ v∈vs,v.oneCell'=true:=fun v hv=>by
  obtain ⟨k,hk⟩:=List.getElem?_of_mem hv;have O:k<(xs.length - lo)*E.n:=by rw [<- l];exact (qf.1 hk).1
  rw [ab k O] at hk;exact Q v (qj hk)
 have I:lo*E.n+(xs.length - lo)*E.n=xs.length*E.n:=by rw [<- qa7];congr 1;omega
 have az:xs.length*E.n<=cap*E.n:=qau _ V;have hst:=run_storeCells_at (P:=P) b (lo*E.n) e vs 0 cur w hg (by rw [l,N];omega) ar;obtain ⟨new,J⟩:∃ new:Array Value,new=(cur.toList.take (lo*E.n+0)++vs++cur.toList.drop (lo*E.n+0+vs.length)).toArray:=⟨_,rfl⟩;rw [<- J] at hst;have ac:new.toList=cur.toList.take (lo*E.n)++vs++cur.toList.drop (xs.length*E.n):=by rw [J,l];simp only [Nat.add_zero,I]
 have ad:new.size=cap*E.n:=by rw [<- qaf,ac];simp only [qy,qad,qa2,qaf,N,l];omega
 have a6:new.toList.length=cap*E.n:=by rw [qaf];exact ad
 have K:∀ k,k<w.heap.size->¬ Blk (ψ.val id) k->(w.setRow b new).heap[k]?=w.heap[k]?:=fun k _ hk=>khc b new k fun e=>hk (.of (by rw [r,e];rfl));have a0:(w.setRow b new).heap.size=w.heap.size:=by simp [World.setRow]
 have L:ψ.set id xs.length (ψ.val id)=ψ:=by
  unfold Env.set;congr 1
  ·funext j;split;rename_i hj;rw [hj,hl]
   ·rfl
  ·funext j;split;rename_i hj;rw [hj]
   ·rfl
 have au:Same S w (w.setRow b new):=fun k hk hl=>K k hl fun e=>(al k e).1 hk;have h1:(cur.toList.take (lo*E.n)).length=lo*E.n:=by rw [qad,qaf,N];omega
 have av:new.toList.take (xs.length*E.n)=cur.toList.take (lo*E.n)++vs:=by rw [ac,List.take_append_of_le_length (by rw [qy,h1,l];omega),List.take_of_length_le (by rw [qy,h1,l];omega)]
 obtain ⟨ys,C⟩:∃ ys,ys=xs.take lo++List.replicate (xs.length - lo) z:=⟨_,rfl⟩;have ae:ys.length=xs.length:=by rw [C];simp only [qy,qad,qbu];omega
 rw [<- C];obtain ⟨c1,c2,c3⟩:=p.upd (n:=xs.length) (v:=ψ.val id) (w':=w.setRow b new) (ob' := .frow e E.n (ys.map E.f)) R (by omega) K (.inr ⟨hl,rfl⟩) (fun b hb => .inl hb) (by
  rw [L];refine ⟨by simp [hl,ae],G,cur.toList.take (lo*E.n)++vs,?_,fun q D=>?_,fun k q j v u D hv hu=>?_⟩;rw [qt,ae,r];exact ⟨by rw [qy,h1,l,I], .inr ⟨b,cap,new,rfl,qak _,kfb b hg,V,hc2,ad,av⟩⟩
  ·obtain ⟨z0,c,rfl⟩:=qai.1 D;rw [C] at c;rcases qat.1 c with c | c;exact ak _ (List.mem_map_of_mem (qbl c))
   ·rw [(qbt.1 c).2,E.hcl,M];exact ⟨by rw [s.len,aa],s.single⟩
  ·obtain ⟨z0,c,rfl⟩:∃ z0,ys[k]?=some z0/\E.f z0=q:=(by rw [qn,qq] at D;exact D);have hj:j<E.n:=(by rw [<- E.hn z0];exact (qf.1 hu).1);rw [C] at c;by_cases af:k<lo;have aw:k*E.n+j<lo*E.n:=(by have:(k+1)*E.n<=lo*E.n:=qau _ af;rw [qa7,Nat.one_mul] at this;omega);rw [qac (by rw [qad];omega),qaa,qo af] at c;rw [qac (by omega),qaa,qo aw] at hv;refine (hr k (E.f z0) j v u (by rw [qn,c];rfl) ?_ hu).keep au;rw [<- am,qaa,qo (by omega)];exact hv
   ·rw [qab (by rw [qad];omega),qad,Nat.min_eq_left (by omega)] at c;have ax:k - lo<xs.length - lo:=(by have:=(qf.1 c).1;simpa using this);have ag:=qj c;have:=(qbt.1 ag).2;subst this;have O:(k - lo)*E.n+j<(xs.length - lo)*E.n:=(by have:(k - lo+1)*E.n<=(xs.length - lo)*E.n:=qau _ ax;rw [qa7,Nat.one_mul] at this;omega);have ay:k*E.n+j - lo*E.n=(k - lo)*E.n+j:=(by have:k*E.n=lo*E.n+(k - lo)*E.n:=(by rw [<- qa7];congr 1;omega);omega);have a1:lo*E.n<=k*E.n:=qau _ (by omega);rw [qab (by omega),h1,ay,ab _ O,Nat.mul_comm (k - lo),Nat.mul_add_mod,Nat.mod_eq_of_lt hj] at hv;rw [E.hcl,M] at hu;exact s.rf j v u hv hu)
 rw [L] at c1;refine kae (w.setRow b new) (.tuple #[]) ?_ ⟨ψ,S,c1, .fz (.tup rfl fun i v x h=>by simp at h),⟨rfl,rfl,rfl,by omega,c3,no0⟩,Ext.refl,fun _ h=>h,fun _ h=>h,c2⟩;obtain ⟨m,hm⟩:∃ m,xs.length - lo=m+1:=⟨xs.length - lo - 1,by omega⟩;rw [hm] at B Z;simp [execOp,ho,resolve,invoke,builtin,Builtin.clear_,run_underlying ((hT.get hd).slice hk),Z,aq,<- B,hst]
end
set_option maxRecDepth 100000
open Go Go.RowKit Go.Proofs
set_option maxHeartbeats 2000000
attribute [local irreducible] NStep StepA kfw kiq LeSt
def cfAt (xs:List Tm) (k0 j:Int):Option Tm:=bif decide (0<=j/\j<((xs.length - k0.toNat:Nat):Int)) then idx xs ((k0.toNat:Int)+j) else none
def cfIn (eq:Tm->Tm->Option Bool) (k0:Int) (x:Int×Int×List Tm):Option ((Int×Int×List Tm) ⊕ (Int×List Tm)):=
 bif decide (x.1<((x.2.2.length - k0.toNat:Nat):Int)) then Option.bind (cfAt x.2.2 k0 x.1) fun a=>Option.bind (cfAt x.2.2 k0 (w64 (x.1 - 1))) fun b=>Option.bind (eq a b) fun v=>
  bif !v then Option.bind (idx x.2.2 x.2.1) fun _=>some (.inl (w64 (x.1+1),w64 (x.2.1+1),x.2.2.set x.2.1.toNat a)) else some (.inl (w64 (x.1+1),x.2.1,x.2.2))
 else some (.inr (x.2.1,x.2.2))
def k3k (eq:Tm->Tm->Option Bool) (xs:List Tm) (k:Int):Option (Int ⊕ Option (List Tm)):=
 bif decide (k<(xs.length:Int)) then Option.bind (idx xs k) fun a=>Option.bind (idx xs (w64 (k - 1))) fun b=>Option.bind (eq a b) fun v=>
  bif v then Option.bind (ktr k (xs.length:Int) (xs.length:Int)) fun _=>Option.bind (kab (cfIn eq k) fuel (1,k,xs)) fun p=>Option.bind (ktr p.1 (p.2.length:Int) (p.2.length:Int)) fun _=>
   bif decide (p.1.toNat<p.2.length) then Option.bind (cutL (p.2.take p.1.toNat++List.replicate (p.2.length - p.1.toNat) (Tm.mk 0 [])) 0 p.1) fun ys=>some (.inr (some ys)) else none
  else some (.inl (w64 (k+1)))
 else some (.inr none)
def kqg (eq:Tm->Tm->Option Bool) (xs:List Tm):Option (List Tm):=bif decide ((xs.length:Int)<2) then some xs else Option.bind (kab (k3k eq xs) fuel 1) fun r=>some (r.getD xs)
def cfH (p0:Env) (q0:Nat->Prop) (w0:World) (xs:List Tm) (ts:List (Nat×AV)):St:=⟨66,ts++[(0, .row 1 xs.length),(1, .fn 35 [])],[(0, .was p0 [1] q0 w0),(1, .frow 29 2 (xs.map eTmR))],[0,1],[]⟩
def cfG (p0:Env) (q0:Nat->Prop) (w0:World) (k0:Int) (n:Nat) (k2 k:Int) (cur:List Tm):St:=⟨66,[(5,fI k),(6, .win 1 n k0.toNat n 2),(7,fI k2),(0, .row 1 n),(1, .fn 35 [])],[(0, .was p0 [1] q0 w0),(1, .frow 29 2 (cur.map eTmR))],[0,1],[]⟩
def cfK (p0:Env) (q0:Nat->Prop) (w0:World) (n:Nat) (k:Int) (cur:List Tm):St:=⟨66,[(5,fI k),(0, .row 1 n)],[(0, .was p0 [1] q0 w0),(1, .frow 29 2 (cur.map eTmR))],[0,1],[]⟩
theorem k2b {xs:List Tm} {k0 j:Int} {a:Tm} (h:cfAt xs k0 j=some a):decide (0<=j/\j<((xs.length - k0.toNat:Nat):Int))=true/\idx xs ((k0.toNat:Int)+j)=some a:=by
 unfold cfAt at h;cases b:decide (0<=j/\j<((xs.length - k0.toNat:Nat):Int)) with
 | true=>rw [b] at h;exact ⟨rfl,h⟩
 | false=>rw [b] at h;cases h
theorem k9v {eq:Tm->Tm->Option Bool} (o:∀ a b v,eq a b=some v->PCall Tryz.prog 35 [eTm a,eTm b] (eB v)) {xs r:List Tm} (h:kqg eq xs=some r):
  HCall Tryz.prog 34 [.row 1 xs.length, .fn 35 []] [(1, .frow 29 2 (xs.map eTmR))] [1] (.ret (.fz (eL 2 eTmR r))) [] [1]:=by
 unfold kqg at h;refine hcx 0 Tryz.func34 ?_;intro p0 q0 w0;refine nst 8 (kon 27 tt27 1 (.tmp 8) 29 29 2 (List.length xs) (List.map eTmR xs)) (by kernel_rfl) ?_;refine cd 2 h (fun h=>?_) fun h=>?_;obtain rfl:=qs h;refine wle 4 (ke9 1 (List.length xs) 29 2 (List.map eTmR xs) [4] ⟨by kernel_rfl,trivial⟩) ?_;exact lh 2 ⟨66,[(4, .fz (eL 2 eTmR xs))],[(0, .was p0 [1] q0 w0)],[0,1],[]⟩ (le_a (by kernel_rfl)) (hc:=(by kernel_rfl)) (hr:=(by kernel_rfl));refine lpx 7 (fun k=>cfH p0 q0 w0 xs [(5,fI k)]) (fun v e st=>match v with
  | none=>e = .exit 0/\LeSt st (cfH p0 q0 w0 xs [])
  | some ys=>e = .ret/\LeSt st ⟨66,[(4, .fz (eL 2 eTmR ys))],[(0, .was p0 [1] q0 w0)],[0,1],[]⟩) h (le_a (by kernel_rfl)) (fun k r h=>?_) fun v h e st g=>?_
 ·unfold k3k at h;refine nst 5 (kon 27 tt27 1 (.tmp 13) 29 29 2 (List.length xs) (List.map eTmR xs)) (by kernel_rfl) ?_;refine cd 2 h (fun h=>?_) fun h=>?_
  ·obtain ⟨a,ha,h⟩:=qm.1 h;obtain ⟨b,D,h⟩:=qm.1 h;obtain ⟨v,hv,h⟩:=qm.1 h;refine dw 4 11 (by kernel_rfl) ?_;refine nst 3 (knb 27 tt27 1 nTmR xs (.tmp 19) (.tmp 20) 29 tt29 .i64 (List.length xs) ha) (by kernel_rfl) ?_;refine nst 0 (km8 29 tt29 1 nTmR xs a k (.tmp 21) (List.length xs) 0 29 [eI a.rule,eL 2 eTmR a.args] ha) (by kernel_rfl) ?_;refine nst 3 (knb 27 tt27 1 nTmR xs (.tmp 23) (.tmp 25) 29 tt29 .i64 (List.length xs) D) (by kernel_rfl) ?_;refine nst 0 (km8 29 tt29 1 nTmR xs b (w64 (k - 1)) (.tmp 26) (List.length xs) 0 29 [eI b.rule,eL 2 eTmR b.args] D) (by kernel_rfl) ?_;refine nst 0 (k74 35 (.tmp 18) #[.tmp 22, .tmp 27] #[29,29] [.one .keep, .one .keep] [eTm a,eTm b] (o _ _ _ hv)) (by kernel_rfl) ?_;refine cd 2 h (fun h=>?_) fun h=>?_
   ·obtain ⟨_,G,h⟩:=qm.1 h;refine nst 4 (kagu (d:=tt27) (id:=1) (t:=27) eTmR xs (.tmp 29) (some (.tmp 30)) none (some k) none 29 tt29 (List.length xs) 2 G tt_ok rfl) (by kernel_rfl) ?_;refine lp1 8 (fun x=>cfG p0 q0 w0 k x.2.2.length x.1 x.2.1 x.2.2) (.exit 2) (fun p=>cfK p0 q0 w0 p.2.length p.1 p.2) h (fun x r h=>?_) fun p h=>?_
    ·obtain ⟨k2,kk,cur⟩:=x;unfold cfIn at h;simp only at h;refine nst 5 (kaft (id:=1) (d:=tt27) (t:=27) (.tmp 33) 29 29 2 (List.length cur) k.toNat (List.length cur) (List.map eTmR cur) tt_ok (by kernel_rfl) (by kernel_rfl) rfl (by kernel_rfl) (by kernel_rfl) (by simp)) (by kernel_rfl) ?_;refine cd 2 h (fun h=>?_) fun h=>?_
     ·obtain ⟨a,ha,h⟩:=qm.1 h;obtain ⟨b,D,h⟩:=qm.1 h;obtain ⟨v,hv,h⟩:=qm.1 h;obtain ⟨w,A⟩:=k2b ha;obtain ⟨E,F⟩:=k2b D;refine dw 4 12 (by kernel_rfl) ?_;refine nst 3 (kvn (t:=27) tt27 1 nTmR cur k2 (.tmp 39) (.tmp 40) 29 tt29 .i64 (List.length cur) k.toNat (List.length cur) w rfl) (by kernel_rfl) ?_;refine nst 0 (km8 29 tt29 1 nTmR cur a ((k.toNat:Int)+k2) (.tmp 41) (List.length cur) 0 29 [eI a.rule,eL 2 eTmR a.args] A) (by kernel_rfl) ?_;refine nst 3 (kvn (t:=27) tt27 1 nTmR cur (w64 (k2 - 1)) (.tmp 43) (.tmp 45) 29 tt29 .i64 (List.length cur) k.toNat (List.length cur) E rfl) (by kernel_rfl) ?_;refine nst 0 (km8 29 tt29 1 nTmR cur b ((k.toNat:Int)+w64 (k2 - 1)) (.tmp 46) (List.length cur) 0 29 [eI b.rule,eL 2 eTmR b.args] F) (by kernel_rfl) ?_;refine nst 0 (k74 35 (.tmp 38) #[.tmp 42, .tmp 47] #[29,29] [.one .keep, .one .keep] [eTm a,eTm b] (o _ _ _ hv)) (by kernel_rfl) ?_;refine cd 3 h (fun h=>?_) fun h=>?_;obtain ⟨c,hc,h⟩:=qm.1 h;cases h;show W Tryz.prog _ fun e st=>e = .normal/\LeSt st (cfG p0 q0 w0 k (List.length (cur.set kk.toNat a)) (w64 (k2+1)) (w64 (kk+1)) (cur.set kk.toNat a));rw [qb9];refine nst 6 (kvn (t:=27) tt27 1 nTmR cur k2 (.tmp 52) (.tmp 53) 29 tt29 .i64 (List.length cur) k.toNat (List.length cur) w rfl) (by kernel_rfl) ?_;refine nst 0 (km8 29 tt29 1 nTmR cur a ((k.toNat:Int)+k2) (.tmp 54) (List.length cur) 0 29 [eI a.rule,eL 2 eTmR a.args] A) (by kernel_rfl) ?_;refine nst 0 (knb 27 tt27 1 nTmR cur (.tmp 50) (.tmp 51) 29 tt29 .i64 (List.length cur) hc) (by kernel_rfl) ?_;refine sst 0 (kod 29 tt29 1 nTmR cur c a kk (.tmp 56) (.tmp 55) (List.length cur) (eTm a) hc (kf7 _) (fun q g=>by rcases qae.1 g with rfl | g <;> first | rfl | (rcases qae.1 g with rfl | g <;> first | rfl | cases g))) (by kernel_rfl) ?_;exact ljx 11 (le_a (by kernel_rfl)) (by kernel_rfl)
      ·cases h;exact lj 6 (by kernel_rfl)
     ·cases h;exact lo 1 (by kernel_rfl)
    ·obtain ⟨kk,cur⟩:=p;obtain ⟨_,B,h⟩:=qm.1 h;rcases kaik h with ⟨m,h⟩ | ⟨_,h⟩;obtain ⟨ys,hy,h⟩:=qm.1 h;cases h;simp only at B m hy;refine nst 4 (kagu (d:=tt27) (id:=1) (t:=27) eTmR cur (.tmp 59) (some (.tmp 60)) none (some kk) none 29 tt29 (List.length cur) 2 B tt_ok rfl) (by kernel_rfl) ?_;refine sst 0 (kaae (d:=tt27) (id:=1) (t:=27) nTmR cur (Tm.mk 0 []) (.tmp 61) 29 tt29 (List.length cur) kk.toNat [.int .i64 0, .slice none 0 0] [.atom (.int .i64 0), .lst 2 0 []] tt_ok (by kernel_rfl) (by kernel_rfl) (by kernel_rfl) (by kernel_rfl) (by kernel_rfl) (by kernel_rfl) (by kernel_rfl) (.at rfl (.sl (by decide) .nil)) (fun v hv=>by rcases qae.1 hv with rfl | hv <;> first | rfl | (rcases qae.1 hv with rfl | hv <;> first | rfl | cases hv)) (by kernel_rfl) (by kernel_rfl) rfl (qbd m)) (by kernel_rfl) ?_;have H:kk.toNat<=List.length cur:=qaz (qbd m);have C:List.length cur=(cur.take kk.toNat++List.replicate (List.length cur - kk.toNat) (Tm.mk 0 [])).length:=(by simp;omega);refine wle 5 (LeSt.trans (ke9 1 (List.length cur) 29 2 (List.map eTmR (cur.take kk.toNat++List.replicate (List.length cur - kk.toNat) (Tm.mk 0 []))) [62] ⟨by kernel_rfl,trivial⟩ (hn:=(by rw [qt];exact C))) (k3f 62 (.fz (.lst 2 cur.length (List.map eTmR (cur.take kk.toNat++List.replicate (List.length cur - kk.toNat) (Tm.mk 0 []))))) (.fz (eL 2 eTmR (cur.take kk.toNat++List.replicate (List.length cur - kk.toNat) (Tm.mk 0 [])))) (by unfold eL;rw [<- C]))) ?_;refine nst 0 (km2 27 tt27 eTmR (.tmp 62) none (some (.tmp 63)) none (some kk) (cur.take kk.toNat++List.replicate (List.length cur - kk.toNat) (Tm.mk 0 [])) 2 29 tt29 hy (s:=(by kernel_rfl)) (hd:=(by kernel_rfl)) (hk:=(by kernel_rfl)) (f:=(by kernel_rfl)) (g:=(by kernel_rfl)) (hx:=(by kernel_rfl)) (hl:=(by kernel_rfl)) (hh:=(by kernel_rfl))) (by kernel_rfl) ?_;exact lox 3 ⟨66,[(4, .fz (eL 2 eTmR ys))],[(0, .was p0 [1] q0 w0)],[0,1],[]⟩ (le_a (by kernel_rfl))
     ·cases h
   ·cases h;exact lj 6 (by kernel_rfl)
  ·cases h;exact lox 1 (cfH p0 q0 w0 xs []) (le_a (by kernel_rfl))
 ·cases v with
  | none=>
   obtain ⟨rfl,hl⟩:=g;refine ⟨_,hl,?_⟩;obtain rfl:=qs h;refine wle 4 (ke9 1 (List.length xs) 29 2 (List.map eTmR xs) [4] ⟨by kernel_rfl,trivial⟩) ?_;exact lh 2 ⟨66,[(4, .fz (eL 2 eTmR xs))],[(0, .was p0 [1] q0 w0)],[0,1],[]⟩ (le_a (by kernel_rfl)) (hc:=(by kernel_rfl)) (hr:=(by kernel_rfl))
  | some ys=>
   obtain ⟨rfl,hl⟩:=g;refine ⟨_,hl,?_⟩;obtain rfl:=qs h;exact lh 0 ⟨66,[(4, .fz (eL 2 eTmR ys))],[(0, .was p0 [1] q0 w0)],[0,1],[]⟩ (le_a (by kernel_rfl)) (hc:=(by kernel_rfl)) (hr:=(by kernel_rfl))
end Go.Proofs.YtdnfbjahbkpibaaGreatDoor
