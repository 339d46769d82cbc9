import Derived.Test.YtjbonbdomgoklaaGreatDoorTb
import Derived.Test.YtjbonbdomgoklaaGreatDoorTb
import Derived.Test.YtjbonbdomgoklaaGreatDoorVE
set_option linter.all false
namespace Go.Proofs.YtjbonbdomgoklaaGreatDoor
open Go Go.RowKit
section
variable {P:Program} {w:World} {t:TypeId} {st:St} {o:Oper} {a:Act}
theorem kr8 {op:BinOp} {x y:Operand} {u v:Option Addr} {n m c d:Nat}:(eqGuard op t x y (.slice u n c) (.slice v m d)).run P w = .ok () w:=by unfold eqGuard;cases op <;> simp
theorem k4c {u v:Option Addr} {n m c e:Nat} {r:Bool} (h:∀ d:Nat,(Op.equalIn (d+1) t (.slice u n c) (.slice v m e)).run P w = .ok r w):(binOp .eql t (.slice u n c) (.slice v m e)).run P w = .ok (.bool r) w/\(binOp .neq t (.slice u n c) (.slice v m e)).run P w = .ok (.bool !r) w:=by constructor <;> (simp only [binOp];simp [Op.equal,Op.maxDepth,h 9999])
def nonE {α:Type} (xs:List α):Option Unit:=bif List.isEmpty xs then none else some ()
theorem kaet {α:Type} (x y:Operand) (yt te:TypeId) (size:Nat) (enc:α->FV) (xs:List α) {u:Unit} (neg:Bool) (h:nonE xs=some u) (ho:o.op = .binOp (if neg then .neq else .eql) t x y yt) (ht:P.underlying t=some (.slice te)) (i:st.eval x = .fz (eL size enc xs)) (hy:st.eval y = .fz (.atom (.slice none 0 0))):
  NStep P o st (.fz (.atom (.bool neg))):=by
 intro ψ S a w f j;have h1:=Sim.eval_tmps f x;rw [i] at h1;have g:=Sim.eval_tmps f y;rw [hy] at g;have g:=g.atom;obtain ⟨z,zs,rfl⟩:∃ z zs,xs=z::zs:=by
  cases xs with
  | nil=>cases h
  | cons z zs=>exact ⟨z,zs,rfl⟩
 generalize hv:a.eval x=v at h1;have h1:RF S w v (.lst size (z::zs).length ((z::zs).map enc)):=by
  cases h1 with
  | fz h=>exact h
 cases h1 with
 | @lst A cap _ _ _ css hn hc hm hs ha hl hr=>
  obtain ⟨b,off,rfl,_,_⟩:=ha 0 (enc z) rfl;refine kah w (.bool neg) ?_ ⟨kaj _, .fz (.atom rfl)⟩;obtain ⟨q1,q2⟩:=k4c (P:=P) (w:=w) (t:=t) (r:=false) (u:=some ⟨b,off,none⟩) (v:=none) (n:=(z::zs).length) (c:=cap) (m:=0) (e:=0) fun d=>by simp [Op.equalIn,run_underlying ht]
  cases neg;simp [execOp,ho,hv,g,kr8] at q1 ⊢;simp [q1]
  ·simp [execOp,ho,hv,g,kr8] at q2 ⊢;simp [q2]
theorem kait {ops:Array Oper} {l:List Oper} (c c':AV) {Q:Exit->St->Prop} (h:∀ (ψ:Env) (S:Nat->Prop) (a:Act) (w:World),(∀ t,RV ψ (·∈st.ids) S w (a.tmps.getD t undef) (st.get t)) ->
   kf9 P o a w (fun v w'=>Grow w w'/\RV ψ (·∈st.ids) (fun b=>S b\/w.heap.size<=b) w' v c)\/kf9 P o a w (fun v w'=>Grow w w'/\RV ψ (·∈st.ids) (fun b=>S b\/w.heap.size<=b) w' v c')) (hg:kb9 ops st o=some true) (g:∀ t,o.dst=some t->t<st.n) (hn:awpL P ops l (st.put o.dst c) Q) (f:awpL P ops l (st.put o.dst c') Q):awpL P ops (o::l) st Q:=fun F S0 N0 ψ S a w hs=>by
 unfold wpList;rw [khg hs hg];rcases h ψ S a w hs.tmps with hr | hr;refine .inl (khn ?_ hr);rintro v w' ⟨hg,hv⟩;exact kdf (fun e a' w'' k=>k.pre (Fr.of_grow hs.core.fr hg)) _ _ _ (hn F S0 N0 ψ _ _ w' (hs.put (st':=st) rfl rfl rfl (hs.core.grow hg) hv.bound Ext.refl (fun _ h=>h) (fun b d=>⟨.inl d,qbn (hs.core.lt b d) hg.size⟩) (Same.of_grow hg) g))
 ·refine .inl (khn ?_ hr);rintro v w' ⟨hg,hv⟩;exact kdf (fun e a' w'' k=>k.pre (Fr.of_grow hs.core.fr hg)) _ _ _ (f F S0 N0 ψ _ _ w' (hs.put (st':=st) rfl rfl rfl (hs.core.grow hg) hv.bound Ext.refl (fun _ h=>h) (fun b d=>⟨.inl d,qbn (hs.core.lt b d) hg.size⟩) (Same.of_grow hg) g))
theorem nslb {Q:Exit->St->Prop} [Tab P] {g:Cfg} (k:Nat) {α:Type} (x y:Operand) (yt te:TypeId) (size:Nat) (enc:α->FV) (xs:List α) (neg:Bool) (n:List.isEmpty xs=true) (ho:(kp0 (crun P k g)).op = .binOp (if neg then .neq else .eql) t x y yt) (ht:P.underlying t=some (.slice te)) (p:(stOf (crun P k g)).eval x = .fz (eL size enc xs)) (hy:(stOf (crun P k g)).eval y = .fz (.atom (.slice none 0 0))) (hv:okP (crun P k g)=true) (h1:W P (rsmA (.fz (.atom (.bool true))) (stOf (crun P k g)).heap (stOf (crun P k g)).ids (crun P k g)) Q) (j:W P (rsmA (.fz (.atom (.bool false))) (stOf (crun P k g)).heap (stOf (crun P k g)).ids (crun P k g)) Q):W P g Q:=by
 refine kct k ?_;generalize crun P k g=g' at *
 obtain ⟨foc,ks,st⟩:=g';unfold okP at hv;simp only at hv;split at hv
 ·rename_i os o l;split at hv
  ·rename_i hg q;have k1:awpL P os l (st.put o.dst (.fz (.atom (.bool true)))) (kjk P ks Q):=(by unfold W at h1;exact h1);have k2:awpL P os l (st.put o.dst (.fz (.atom (.bool false)))) (kjk P ks Q):=(by unfold W at j;exact j);unfold W;refine kait (.fz (.atom (.bool true))) (.fz (.atom (.bool false))) (fun ψ S a w e=>?_) hg (kpp q) k1 k2;have q1:=Sim.eval_tmps e x;rw [show st.eval x=_ from p] at q1;have q2:=Sim.eval_tmps e y;rw [show st.eval y=_ from hy] at q2;have q2:=q2.atom;have q1:=q1.inv;obtain rfl:xs=[]:=List.isEmpty_iff.1 n;obtain ⟨A,cap,css,f,hn,r,s,hs,ha,u,hr⟩:=q1.lst_inv;have h:∀ b:Bool,kf9 P o a w (fun v w'=>Grow w w'/\RV ψ (·∈st.ids) (fun b=>S b\/w.heap.size<=b) w' v (.fz (.atom (.bool b))))->kf9 P o a w (fun v w'=>Grow w w'/\RV ψ (·∈st.ids) (fun b=>S b\/w.heap.size<=b) w' v (.fz (.atom (.bool true))))\/kf9 P o a w (fun v w'=>Grow w w'/\RV ψ (·∈st.ids) (fun b=>S b\/w.heap.size<=b) w' v (.fz (.atom (.bool false)))):=fun b m=>by
    cases b;exact .inr m
    ·exact .inl m
   have i:∃ b:Bool,∀ d:Nat,(Op.equalIn (d+1) t (.slice A 0 cap) (.slice none 0 0)).run P w = .ok b w:=(by cases A <;> simp [Op.equalIn,run_underlying ht]);obtain ⟨b,i⟩:=i;obtain ⟨p1,p2⟩:=k4c (P:=P) (w:=w) i;refine h (if neg then !b else b) (kah w (.bool (if neg then !b else b)) ?_ ⟨kaj _, .fz (.atom rfl)⟩);cases neg;simp [execOp,show o.op=_ from ho,f,q2,kr8,p1]
   ·simp [execOp,show o.op=_ from ho,f,q2,kr8,p2]
  ·cases hv
 ·cases hv
theorem kafn (e:TypeId) (x:Operand) (idt g id:Nat) (ov:Value) (eo ei:TypeId) (rows:List (List Value)) (ho:o.op = .box e x) (k:kad st.heap idt=some (.tab g ov eo ei rows)) (m:st.eval x = .fz (.atom ov)) (d:st.ids.contains id=false):
  StepA P o st (.ref id 0 0) ((id, .box e [.fz (.atom ov)])::st.heap) (id::st.ids):=by
 have d:id∉st.ids:=by simpa using d
 intro F S0 N0 ψ S a w f;have c:=f.core;have l:ov.oneCell'=true:=by obtain ⟨_,⟨_,vs,_,_,j,_⟩,_⟩:=c.obj idt _ k;rcases j.2 with ⟨rfl,_⟩ | ⟨g,cap,cur,rfl,_⟩ <;> rfl
 have hs:∀ y∈(st.eval x).cells,y.single=true:=by rw [m];intro y hy;simp [AV.cells,FV.cells] at hy;subst hy;exact l
 obtain ⟨e1,e2,e3⟩:=RV.cells (f.eval x) hs;have hc:(st.eval x).cells=[.fz (.atom ov)]:=by rw [m];rfl
 rw [hc] at e1 e2 hs;refine kah (w.alloc (.cells (a.eval x).cells e)) (.pointer (some ⟨w.heap.size,0,none⟩)) ?_ ⟨ψ.set id 0 (.pointer (some ⟨w.heap.size,0,none⟩)),S,?_,?_,kkg _ c.fr,kb5 d _ _,fun _ h=>qk _ h,fun _ h=>h,Same.of_grow (kbl _ _)⟩;simp [execOp,ho,Instr.box,newVar,newRow];refine c.add (kbl _ _) d (fun b n=>by simp [kau] at n;omega) ⟨kcl _ _,w.heap.size,_,kap _ _,heap_alloc_new w _,e1,hs,fun i v y hv hy=>?_⟩;exact (e2 i v y hv hy).keep (kb5 d _ _) (fun _ h=>qk _ h) (fun _ h=>h) (Same.of_grow (kbl _ _))
 ·exact .ref (qo ..) (qao _) rfl fun _=>⟨w.heap.size,by rw [kap];rfl,rfl⟩
end
section
variable {P:Program} [t:Tab P] {Q:Exit->St->Prop} {g:Cfg}
def k42 (ks ids:List Nat) (st:St):St:=⟨st.n,ks.map fun t=>(t,look .any st.tmps t),ids.filterMap fun i=>(kad st.heap i).map fun o=>(i,o),ids,st.dfr⟩
theorem wrl (k:Nat) (ks ids:List Nat) (i q m n:Nat) (a:W P (kx8 (crun P k g) (k44 i n (k42 ks ids (stOf (crun P k g))))) Q) (hmn:m=n:=by simp) (hl:coA (stOf (crun P k g)) (k42 ks ids (stOf (crun P k g)))=some (k42 ks ids (stOf (crun P k g))):=by kernel_rfl)
  (hr:k2s i (k42 ks ids (stOf (crun P k g)))=List.replicate q m:=by kernel_rfl) (hc:kxd (crun P k g)=true:=by kernel_rfl):W P g Q:=wle k ((le_a hl).trans (kaew i hr hmn)) a (hc:=hc)
end
set_option linter.unusedVariables false
set_option maxRecDepth 100000
def adF:List FV:=[.atom (.string ⟨#[97,100,100]⟩)]
def adR:FV := .tup [.agg [.atom (.string ⟨#[97,100,100]⟩), .lst 1 2 [.atom (.int .i64 2), .atom (.int .i64 2)], .atom (.int .i64 2)], .atom (.bool true)]
theorem kae3:PCall Tryz.prog 140 adF adR:=k89 (kadz [] (fun p h=>by cases h)) 10000
def twA:FV := .agg [.lst 3 2 [.agg [.atom (.int .i64 0), .atom (.int .i64 1), .lst 2 1 [.agg [.atom (.int .i64 0), .atom (.slice none 0 0)]]], .agg [.atom (.int .i64 0), .atom (.int .i64 3), .lst 2 1 [.agg [.atom (.int .i64 1), .lst 1 2 [.atom (.int .i64 0), .atom (.int .i64 0)]]]]], .lst 1 2 [.atom (.int .i64 0), .atom (.int .i64 1)]]
def twB:FV := .agg [.lst 3 2 [.agg [.atom (.int .i64 0), .atom (.int .i64 1), .lst 2 1 [.agg [.atom (.int .i64 0), .atom (.slice none 0 0)]]], .agg [.atom (.int .i64 0), .atom (.int .i64 3), .lst 2 1 [.agg [.atom (.int .i64 1), .lst 1 2 [.atom (.int .i64 0), .atom (.int .i64 0)]]]]], .lst 1 2 [.atom (.int .i64 0), .atom (.int .i64 1)]]
def twS:Sad:=Sad.mk [Saa.mk 0 1 [Sac.mk 0 []],Saa.mk 0 3 [Sac.mk 1 [0,0]]] [0,1]
theorem kall:PCall Tryz.prog 25 [twA,twB] (.atom (.bool true)):=PCall.le (ktd twS twS true (by kernel_rfl)) (by kernel_rfl)
def fx0:List (Nat×List FV×FV):=[(140,adF,adR),(25,[twA,twB], .atom (.bool true))]
theorem kali:∀ p∈fx0,PCall Tryz.prog p.1 p.2.1 p.2.2:=fun p hp=>by
 rcases qan.1 hp with rfl | hp;exact kae3
 ·obtain rfl:=qai.1 hp;exact kall
theorem kacq:PCall Tryz.prog 5 [] (.atom (.bool true)):=k89 (kadz fx0 kali) 2000
def kgx:Option Bool:=some true
theorem kg7 (r:Bool) (h:kgx=some r):PCall Tryz.prog 5 [] (eB r):=by cases h;exact kacq
open Go Go.RowKit Go.Proofs Go.Proofs.Tryz
set_option maxHeartbeats 2000000
attribute [local irreducible] NStep StepA kk5 LeSt
def kij (a0:List Int):Option (List Int):=Option.bind (app 8 ([]:List Int) a0) fun v2=>some v2
theorem ktc (a0 r:List Int) (h:kij a0=some r):PCall prog 57 [(eL 1 eI) a0] ((eL 1 eI) (r)):=by
 unfold kij at h;cases b:List.isEmpty a0 with
 | false=>
  have a:nonE a0=some ():=by unfold nonE;rw [b];rfl
  refine pcl [.one (.sl 1)] func57 ?_;refine nst 8 (kaet (t:=22) (.tmp 3) (.const (.slice none 0 0)) 22 3 1 eI a0 false a (by kernel_rfl) (by kernel_rfl) (by kernel_rfl) (by kernel_rfl)) ?_;refine sst 5 (kqs 22 tt22 1 eI 0 #[] 3 tt3 ([]:List (Int))) ?_;refine ap nI 1 h fun v2 h=>?_;refine wle 2 (kjg 2 1 v2.length 3 1 (List.map eI v2)) ?_;cases h;exact lq 1
 | true=>
  obtain rfl:a0=[]:=List.isEmpty_iff.1 b;refine pcl [.one (.sl 1)] func57 ?_;refine nslb (t:=22) 8 (.tmp 3) (.const (.slice none 0 0)) 22 3 1 eI ([]:List Int) false rfl (by kernel_rfl) (by kernel_rfl) (by kernel_rfl) (by kernel_rfl) (by kernel_rfl) ?_ ?_;have e:(Option.bind (app 8 ([]:List Int) []) fun v2=>some v2)=some ([]:List Int):=by kernel_rfl
  rw [e] at h;cases h;exact lq 7;refine sst 5 (kqs 22 tt22 1 eI 0 #[] 3 tt3 ([]:List (Int))) ?_;refine ap nI 1 h fun v2 h=>?_;refine wle 2 (kjg 2 1 v2.length 3 1 (List.map eI v2)) ?_;cases h;exact lq 1
end Go.Proofs.YtjbonbdomgoklaaGreatDoor
