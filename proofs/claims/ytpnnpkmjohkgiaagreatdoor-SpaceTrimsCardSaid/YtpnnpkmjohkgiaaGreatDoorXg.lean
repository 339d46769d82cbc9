import Derived.Test.YtpnnpkmjohkgiaaGreatDoorXl
set_option linter.all false
namespace Go.Proofs.YtpnnpkmjohkgiaaGreatDoor
open Go Go.RowKit
section
variable {P:Program} {F S0:Nat->Prop} {N0:Nat} {w w':World} {S S':Nat->Prop} {ψ ψ':Env} {K:Nat->Prop} {T:List (TypeId×TD)} {Z:List (TypeId×Value)} {o:Oper} {a:Act} {st:St} {t tx:TypeId} {d:TD} {id:Nat} {c:AV}
theorem kam {α:Type} {b:Bool} {x:Option α} {y:α} (h:(bif b then x else none)=some y):b=true/\x=some y:=by
 cases b with
 | false=>cases h
 | true=>exact ⟨rfl,h⟩
theorem ky6 (g:TOk P T) {s:TypeId} {x:Operand} {f:Nat} (ho:o.op = .fieldAddr s x f) (h:fldE T st.eval (kab st.heap) s x f=some c):NStep P o st c:=by
 unfold fldE at h;split at h
 ·rename_i d i;split at h
  ·rename_i fs hk;split at h
   ·rename_i ft off hf;split at h
    ·rename_i df b;cases a:Nat.beq df.size 0 with
     | true=>rw [a] at h;cases h
     | false=>
      rw [a] at h;exact kvq ho (g.get i) hk hf (g.get b) (fun e=>by rw [e] at a;cases a) h
    ·cases h
   ·cases h
  ·cases h
 ·cases h
theorem k0m (f:TOk P T) {x y:Operand} (ho:o.op = .indexAddr t x y) (h:idxE T st.eval (kab st.heap) t x y=some c):NStep P o st c:=by
 unfold idxE at h;split at h
 ·rename_i d k i j hy;replace h:=kam h;obtain ⟨h0,h⟩:=h;have h0:0<=i:=by simpa using h0
  split at h
  ·rename_i e hk;split at h
   ·rename_i de a;split at h
    ·rename_i id g off len cap p;split at h;rename_i g' cells l;replace h:=kam h;obtain ⟨b,h⟩:=h;simp only [qn,qbb] at b;obtain rfl:=qf b.1;injection h with h;subst h;exact k1e ho (f.get j) hk (f.get a) p l hy h0 b.2
     ·cases h
    ·split at h
     ·rename_i xs hl;split at h;rename_i z m;replace h:=kam h;obtain ⟨b,h⟩:=h;injection h with h;subst h;exact kqo ho (f.get j) hk (f.get a) hl (fun z m=>qf (ql.1 b z m)) hy h0 m rfl
      ·cases h
     ·cases h
   ·cases h
  ·rename_i n e hk;split at h;rename_i de a;replace h:=kam h;obtain ⟨b,h⟩:=h;exact k1x ho (f.get j) hk (f.get a) hy h0 (by simpa using b) h
   ·cases h
  ·cases h
 ·cases h
theorem kz9 (e:TOk P T) {x y:Operand} (ho:o.op = .index t x y) (h:bytE T st.eval (kab st.heap) t x y=some c):NStep P o st c:=by
 unfold bytE at h;split at h
 ·rename_i d s k i f g hy;split at h
  ·rename_i hk;replace h:=kam h;obtain ⟨h0,h⟩:=h;split at h;rename_i b j;injection h with h;subst h;have a:s.data[i.toNat]?=some b:=(by simpa using j);exact k19 ho (e.get f) hk g hy (by simpa using h0) (c:=b) (by obtain ⟨hl,a⟩:=qax.1 a;rw [<- a];exact getElem?_pos s i.toNat hl)
   ·cases h
  ·cases h
 ·cases h
theorem kyh {s:BA} {l h:Nat} (h1:l<=h) (a:h<=s.size):cutB s l h=s.extract l h:=by apply ByteArray.ext;rw [ByteArray.data_extract];apply qa8;simp [cutB,Array.toList_extract,List.extract_eq_take_drop,List.drop_take]
theorem knx (s:BA):khg s=s.size:=by unfold khg;rw [qas];rfl
theorem k0z {x:Operand} {lo hi:Option Operand} {s:BA} {L H:Nat} (ho:o.op = .slice t x lo hi none) (e:TdOk P t d) (hk:d.kind = .str) (f:st.eval x = .fz (.atom (.string s))) (hl:kca st 0 lo=some L) (c:kca st (khg s) hi=some H) (h1:L<=H) (b:H<=khg s):
  NStep P o st (.fz (.atom (.string (cutB s L H)))):=by
 intro ψ S a w ht g;have hv:=Sim.eval_tmps ht x;rw [f] at hv;rw [knx] at c b;have e1:=kev (P:=P) (w:=w) (isS:=false) (mx:=none) (cap:=s.size) (M:=s.size) (kbd ht hl) (kbd ht c) (.inl ⟨rfl,rfl⟩) h1 b (qt _) (fun h=>by cases h);refine kaf (w':=w) (v := .string (s.extract L H)) ?_ ⟨kag _,by rw [kyh h1 b];exact .fz (.atom rfl)⟩;simp only [Option.map_none] at e1;simp [execOp,ho,Instr.sliceAt,Instr.slice,run_underlying (e.str hk),hv.atom,e1]
theorem k0h (p:TOk P T) {x:Operand} {lo hi mx:Option Operand} (ho:o.op = .slice t x lo hi mx) (h:slcE T st.eval (kab st.heap) t x lo hi mx=some c):NStep P o st c:=by
 unfold slcE at h;split at h
 ·rename_i d q;split at h
  ·rename_i hk;split at h
   ·rename_i s l;split at h;rename_i L H f i;replace h:=kam h;obtain ⟨a,h⟩:=h;simp only [qn] at a;injection h with h;subst h;exact k0z ho (p.get q) hk l f i (qk a.1) (qk a.2)
    ·cases h
   ·cases h
  ·rename_i e hk;split at h
   ·rename_i de b;split at h
    ·rename_i id g off len k l;split at h;rename_i g' cells L H M j f i m;replace h:=kam h;obtain ⟨a,h⟩:=h;simp only [qn,Bool.or_eq_true,Bool.not_eq_true'] at a;obtain ⟨b1,b2,b3,b4,b5⟩:=a;obtain rfl:=qf b1;injection h with h;subst h;exact n_slB ho p q hk b l j f i m (qk b2) (qk b3) (qk b4) (fun hm=>b5.elim (fun h=>by rw [hm] at h;cases h) fun h=>h)
     ·cases h
    ·rename_i id g len l;split at h
     ·rename_i g' cells L H j f i;split at h;replace h:=kam h;obtain ⟨a,h⟩:=h;simp only [qn] at a;obtain ⟨b1,b2,b3⟩:=a;obtain rfl:=qf b1;obtain rfl:=qf b2;injection h with h;subst h;exact n_slU ho p q hk b l j f i (qk b3)
      ·rename_i y;split at h;rename_i M m;replace h:=kam h;obtain ⟨a,h⟩:=h;simp only [qn] at a;obtain ⟨b1,b2,b3,b4,b5⟩:=a;obtain rfl:=qf b1;injection h with h;subst h;exact n_slM ho p q hk b l j f i m (qk b2) (qk b3) (qk b4) b5
       ·cases h
     ·cases h
    ·rename_i l;split at h;rename_i f i m;replace h:=kam h;obtain ⟨a,h⟩:=h;simp only [Bool.or_eq_true,Bool.not_eq_true'] at a;injection h with h;subst h;exact n_sl0 ho p q hk b l f i m (fun hm=>a.elim (fun h=>by rw [hm] at h;cases h) fun h=>h)
     ·cases h
    ·split at h
     ·rename_i s n xs hl;split at h
      ·rename_i L H f i;replace h:=kam h;obtain ⟨a,h⟩:=h;simp only [qn] at a;obtain ⟨b1,b2,b3⟩:=a;obtain rfl:=qf b1;split at h;injection h with h;subst h;exact n_slF ho p q hk b hl f i (qk b2) (qk b3)
       ·rename_i y;split at h;rename_i M m;replace h:=kam h;obtain ⟨a,h⟩:=h;simp only [qn] at a;obtain rfl:=qf a.1;injection h with h;subst h;exact k08 ho p q hk b hl f i m (qk b2) (qk b3) a.2
        ·cases h
      ·cases h
     ·cases h
   ·cases h
  ·rename_i n e hk;split at h
   ·rename_i de id g off b l;split at h;rename_i g' cells L H M j f i m;replace h:=kam h;obtain ⟨a,h⟩:=h;simp only [qn,Bool.or_eq_true,Bool.not_eq_true'] at a;obtain ⟨b1,b2,b3,b4,b5,b6⟩:=a;obtain rfl:=qf b1;injection h with h;subst h;exact ky2 ho p q hk b l j f i m (qk b2) (qk b3) (qk b4) (fun hm=>b5.elim (fun h=>by rw [hm] at h;cases h) fun h=>h) (qk b6)
    ·cases h
   ·cases h
  ·cases h
 ·cases h
theorem ky5 (f:TOk P T) {x:Operand} (ho:o.op = .call { callee := .builtin .len,args:=#[x],argTypes:=#[t] }) (h:lenE T st.eval (kab st.heap) x t=some c):NStep P o st c:=by
 unfold lenE at h;split at h
 ·rename_i d i;split at h
  ·rename_i e id g off len cap hk b;split at h;rename_i g' cells a;replace h:=kam h;obtain ⟨j,h⟩:=h;obtain rfl:=qf j;injection h with h;subst h;exact k1k ho (f.get i) hk b a
   ·cases h
  ·rename_i hk _;split at h;rename_i n hn;injection h with h;subst h;exact kmn ho (f.get i) hk hn
   ·cases h
  rename_i s hk b;injection h with h;subst h;rw [knx];exact knj ho (f.get i) hk b
  ·rename_i kt et id hk b;split at h;rename_i kv a;injection h with h;subst h;exact k1b ho (f.get i) hk b a
   ·cases h
  ·cases h
 ·cases h
theorem k0b (a:TOk P T) {x:Operand} (ho:o.op = .call { callee := .builtin .cap,args:=#[x],argTypes:=#[t] }) (h:capE T st.eval (kab st.heap) x t=some c):NStep P o st c:=by
 unfold capE at h;split at h
 ·rename_i d b;split at h
  ·rename_i e hk;split at h
   ·rename_i de f;split at h;rename_i m k ys hr;injection h with h;subst h;exact k16 ho (a.get b) hk hr
    ·cases h
   ·cases h
  ·cases h
 ·cases h
theorem kx0 (b:TOk P T) {s:TypeId} {x:Operand} (ho:o.op = .convert s t x) (h:cnvE T st.eval (kab st.heap) s t x=some c):NStep P o st c:=by
 unfold cnvE at h;split at h
 ·rename_i ds d hs f;split at h;rename_i k _ k' n hk g;injection h with h;subst h;exact kt3 b ho hs f hk g;rename_i u hk a g;injection h with h;subst h;exact kqq b ho hs a f hk g
  ·rename_i e hk a;split at h
   ·rename_i de i;split at h
    ·rename_i j;split at h
     ·rename_i n c' ys hr;split at h;rename_i xs hi;injection h with h;subst h;exact k03 b ho hs a i j f hk hr hi
      ·cases h
     ·cases h
    ·cases h
   ·cases h
  ·cases h
 ·cases h
theorem k2c (e:TOk P T) (f:ZOk P Z) {x y:Operand} {ok:Bool} (ho:o.op = .lookup t x y ok) (h:lkE T Z st.eval (kab st.heap) t x y ok=some c):NStep P o st c:=by
 unfold lkE at h;split at h
 ·rename_i d id k g i hy;split at h
  ·rename_i kt et hk;split at h
   ·rename_i kd kv a b;replace h:=kam h;obtain ⟨j,h⟩:=h;split at h
    ·rename_i r hr;split at h;rename_i c' hc;injection h with h;subst h;exact ktb ho e f g hk a i b hy j hr (by cases r <;> exact hc)
     ·cases h
    ·cases h
   ·cases h
  ·cases h
 ·cases h
theorem ktv {mx:Bool} {x y:Operand} {ts:Array TypeId} (ho:o.op = .call { callee := .builtin (bif mx then .max else .min),args:=#[x,y],argTypes:=ts }) (h:mmE st.eval (kab st.heap) mx x y=some c):NStep P o st c:=by
 unfold mmE at h;split at h
 ·rename_i k m k' n b hy;replace h:=kam h;obtain ⟨a,h⟩:=h;have a:k=k':=by simpa using a
  subst a;injection h with h;subst h;cases mx with
  | false=>exact kxn ho b hy
  | true=>exact kxr ho b hy
 ·cases h
theorem kwi {x:Operand} {yt:TypeId} (ho:o.op = .binOp .neq t x (.const .nilIface) yt) (a:TdOk P t d) (hk:d.kind = .ifc) (b:st.eval x = .fz (.atom .nilIface)):NStep P o st (.fz (.atom (.bool false))):=
 kg9 true true ho a hk b (.inr ⟨rfl,rfl⟩)
theorem kr1 (c:TOk P T) (a:kgc T t=true):P.underlying t=some .bool:=by
 unfold kgc at a;split at a
 ·rename_i d f;split at a;rename_i hk;obtain ⟨_,e,h1,b⟩:=c.get f;rw [hk] at b;cases e <;> simp [kai] at b;exact h1
  ·cases a
 ·cases a
theorem kqz (a:TOk P T) {op:BinOp} {x y:Operand} {yt:TypeId} {r:Bool} (ho:o.op = .binOp op t x y yt) (b:(r=true/\st.eval x = .fz (.atom nilV))\/(r=false/\((∃ id g off len cap cells,st.eval x = .bsl id g off len cap/\objC st id=some (g,cells))\/∃ s n z zs,lstX (st.eval x)=some (s,n,z::zs)))) (hy:st.eval y = .fz (.atom nilV))
  (h:binE.nilE T op t r=some c):NStep P o st c:=by
 unfold binE.nilE at h;split at h
 ·rename_i d f;split at h;rename_i e hk;injection h with h;subst h;exact ktt false r ho ((a.get f).slice hk) b hy;rename_i e hk;injection h with h;subst h;exact ktt true r ho ((a.get f).slice hk) b hy
  ·cases h
 ·cases h
theorem k0s {z:AV} {r:Bool} (h:nilX (kab st.heap) z=some r):(r=true/\z = .fz (.atom nilV))\/(r=false/\((∃ id g off len cap cells,z = .bsl id g off len cap/\objC st id=some (g,cells))\/∃ s n x xs,lstX z=some (s,n,x::xs))):=by
 unfold nilX at h;split at h;injection h with h;exact .inl ⟨h.symm,rfl⟩
 ·rename_i id g off len cap;split at h;rename_i g' cells a;replace h:=kam h;obtain ⟨b,h⟩:=h;obtain rfl:=qf b;injection h with h;exact .inr ⟨h.symm, .inl ⟨id,g,off,len,cap,cells,rfl,a⟩⟩
  ·cases h
 ·split at h;rename_i s n x xs hl;injection h with h;exact .inr ⟨h.symm, .inr ⟨s,n,x,xs,hl⟩⟩
  ·cases h
theorem k0f (b:TOk P T) {op:BinOp} {x y:Operand} {yt:TypeId} (ho:o.op = .binOp op t x y yt) (h:binE T st.eval (kab st.heap) op t x y=some c):NStep P o st c:=by
 unfold binE at h;split at h
 ·split at h
  ·rename_i d e a;split at h;rename_i hk;injection h with h;subst h;exact kwi ho (b.get e) hk a
   ·cases h
  ·cases h
 ·split at h;rename_i a hy;exact kqz b ho (.inl ⟨rfl,a⟩) hy h
  ·rename_i u v _ a hy;split at h;rename_i r hr;injection h with h;subst h;exact kxx (kgc T t) (fun f=>kr1 b f) ho a hy hr
   ·cases h
  ·rename_i hy _ _;split at h;rename_i r hr;exact kqz b ho (k0s hr) hy h
   ·cases h
  ·cases h
theorem k0i {x:Operand} (ho:o.op = .entry x) (h:entE st.eval (kab st.heap) x=some c):NStep P o st c:=by
 unfold entE at h;split at h
 ·rename_i id e;split at h
  ·rename_i m since seen stepped a;split at h
   ·rename_i kv j b f;split at h;rename_i p hp;replace h:=kam h;obtain ⟨d,h⟩:=h;simp only [qn] at d;injection h with h;subst h;obtain ⟨ys,rfl⟩:∃ ys,seen=ys++[j]:=(by obtain ⟨ys,rfl⟩:=List.getLast?_eq_some_iff.1 f;exact ⟨ys,rfl⟩);rw [qf d.1] at a;exact kwx ho e a b hp d.2
    ·cases h
   ·cases h
  ·cases h
 ·cases h
theorem kur (a:TOk P T) {parts:Array (Nat×Operand)} (ho:o.op = .build t parts) (h:kuh T st.eval t parts=some c):NStep P o st c:=kqf a ho h
theorem kqs (g:TOk P T) {n:Nat} {parts:Array (Nat×Operand)} (ho:o.op = .buildSlice t n parts) (h:litH T st.eval t n parts=some c):NStep P o st c:=by
 unfold litH at h;split at h
 ·rename_i d i;split at h
  ·rename_i e hk;split at h
   ·rename_i de b;split at h;rename_i xs f;replace h:=kam h;obtain ⟨a,h⟩:=h;injection h with h;subst h;simp only [qn] at a;exact kxj ho (g.get i) hk (g.get b) (qk a.2.1) (qf a.1) (qk a.2.2) f
    ·cases h
   ·cases h
  ·cases h
 ·cases h
theorem kn9 (a:TOk P T) (m:ZOk P Z) (h:nE T Z st.eval (kab st.heap) o=some c):NStep P o st c:=by
 unfold nE at h;split at h;rename_i ho;exact k0f a ho h
 ·rename_i t x ho;split at h;rename_i d xs p k;exact kx5 ho (a.get p) k h
  ·cases h
 rename_i ho;exact ky6 a ho h;rename_i ho;exact k1d ho h;rename_i ho;exact k0m a ho h;rename_i ho;exact kz9 a ho h;rename_i ho;exact k0h a ho h;rename_i ho;exact kx0 a ho h;rename_i ho;exact k2c a m ho h;rename_i ho;exact k0i ho h
 ·rename_i cl ho;obtain ⟨callee,args,tys⟩:=cl;simp only at h;split at h;rename_i x t e l;rw [kfq e,kfq l] at ho;exact ky5 a ho h;rename_i x t e l;rw [kfq e,kfq l] at ho;exact k0b a ho h;rename_i x y e;have:args=#[x,y]:=(by apply qa8;simpa using e);rw [this] at ho;exact ktv (mx:=false) ho h;rename_i x y e;have:args=#[x,y]:=(by apply qa8;simpa using e);rw [this] at ho;exact ktv (mx:=true) ho h
  ·cases h
 rename_i x ho;injection h with h;subst h;exact klz (.inl ho);rename_i x ho;injection h with h;subst h;exact klz (.inr ho)
 ·rename_i cc x y ho;split at h;rename_i b j;injection h with h;subst h;exact kt8 ho j
  ·cases h
 ·rename_i op t x ho;split at h
  ·rename_i u q;split at h;rename_i r hr;injection h with h;subst h;exact n_un ho q hr
   ·cases h
  ·cases h
 rename_i x i ho;exact knh ho h;rename_i t parts ho;exact kur a ho h;rename_i t n parts ho;exact kqs a ho h
 ·rename_i f first cap ho
  cases j:first.isEmpty with
  | false=>
   rw [j] at h;cases g:cap.isEmpty with
   | false=>rw [g] at h;cases h
   | true=>
    rw [g] at h;have:cap=#[]:=(by simpa using g);subst this;simp only [qg,qe,qb] at h;subst h;exact kxf ho
  | true=>
   rw [j] at h;have:first=#[]:=by simpa using j
   subst this;simp only [qe,qb] at h;subst h;exact kuu ho
 ·cases h
theorem kxl {dl:Dl} (h:(match nE T Z st.eval (kab st.heap) o with | some c=>some (c,Dl.no) | none=>none)=some (c,dl)) (a:TOk P T) (b:ZOk P Z):StepA P o st c (ke4 st id dl) (dIds st id dl):=by
 split at h;rename_i c' hc;simp only [qb,qj] at h;obtain ⟨rfl,rfl⟩:=h;exact (kn9 a b hc).step
 ·cases h
theorem km1 {i g:Nat} {cells cells':List AV} {x:AV} {dl:Dl} (a:objC st i=some (g,cells)) (h:setE (kab st.heap) i x cells'=some (c,dl)):x=c/\ke4 st id dl=putC st i cells'/\dIds st id dl=st.ids:=by
 unfold setE at h;split at h
 ·rename_i ob ho;simp only [qb,qj] at h;obtain ⟨rfl,rfl⟩:=h;unfold objC objH at a;rw [ho] at a;unfold putC;rw [ho];split at a;rename_i e cs b;injection b with b;subst b;exact ⟨rfl,rfl,rfl⟩;rename_i g e sz cs b;injection b with b;subst b;exact ⟨rfl,rfl,rfl⟩
  ·cases a
 ·cases h
theorem kyd (e:TOk P T) {x y:Operand} {dl:Dl} (ho:o.op = .store t x y) (h:stoE T st.eval (kab st.heap) t x y=some (c,dl)):StepA P o st c (ke4 st id dl) (dIds st id dl):=by
 unfold stoE at h;split at h
 ·rename_i d i n off f j;split at h;rename_i g cells a;replace h:=kam h;obtain ⟨b,h⟩:=h;simp only [qn] at b;obtain ⟨b1,b2,b3,b4⟩:=b;obtain rfl:=qf b1;obtain ⟨rfl,e2,e3⟩:=km1 (id:=id) a h;rw [e2,e3];exact kvt ho (e.get f) j a rfl (qf b2) b3 (qk b4)
  ·cases h
 ·cases h
theorem kzj (g:TOk P T) {x y:Operand} {dl:Dl} (a:st.ids.contains id=false) (ho:o.op = .makeSlice t x y) (h:mksE T st.eval (kab st.heap) t id x y=some (c,dl)):StepA P o st c (ke4 st id dl) (dIds st id dl):=by
 unfold mksE at h;split at h
 ·rename_i d i;split at h
  ·rename_i e hk;split at h
   ·rename_i de b;split at h;rename_i zv k n k' m j l hy;replace h:=kam h;obtain ⟨f,h⟩:=h;simp only [qn,qbb] at f;obtain ⟨b1,b2,b3,b4,b5,b6⟩:=f;simp only [qb,qj] at h;obtain ⟨rfl,rfl⟩:=h;exact e_mkE ho g i hk b (qf b1) j b2 l hy b3 b4 b5 b6 a
    ·cases h
   ·cases h
  ·cases h
 ·cases h
theorem kzi (a:TOk P T) {mu:Bool} {n:Nat} {parts:Array (Nat×Operand)} {dl:Dl} (b:st.ids.contains id=false) (ho:o.op = .buildSlice t n parts) (h:litE T st.eval (kab st.heap) mu t n id parts=some (c,dl)):StepA P o st c (ke4 st id dl) (dIds st id dl):=by
 unfold litE at h;split at h
 ·rename_i c' hc;simp only [qb,qj] at h;obtain ⟨rfl,rfl⟩:=h;cases mu with
  | true=>cases hc
  | false=>exact (kqs a ho hc).step
 ·split at h
  ·rename_i d j;split at h
   ·rename_i e hk;split at h
    ·rename_i de f;split at h;rename_i ys g;replace h:=kam h;obtain ⟨i,h⟩:=h;simp only [qn] at i;obtain ⟨b1,b2,b3⟩:=i;simp only [qb,qj] at h;obtain ⟨rfl,rfl⟩:=h;exact k12 ho (a.get j) hk (a.get f) (qk b2) (qf b1) (qk b3) g b
     ·cases h
    ·cases h
   ·cases h
  ·cases h
theorem k0d (e:TOk P T) {x y v:Operand} {dl:Dl} (ho:o.op = .mapUpdate t x y v) (h:mpuE T st.eval (kab st.heap) t x y v=some (c,dl)):StepA P o st c (ke4 st id dl) (dIds st id dl):=by
 unfold mpuE at h;split at h
 ·rename_i d i k f g hy;split at h
  ·rename_i kt et hk;split at h
   ·rename_i kd kv a b;replace h:=kam h;obtain ⟨j,h⟩:=h;split at h;rename_i kv' hp;simp only [qb,qj] at h;obtain ⟨rfl,rfl⟩:=h;exact kpk ho e f hk a g b hy j hp
    ·cases h
   ·cases h
  ·cases h
 ·cases h
theorem kyp (e:TOk P T) {x:Operand} {dl:Dl} (a:st.ids.contains id=false) (ho:o.op = .range t x) (h:rngE T st.eval (kab st.heap) t id x=some (c,dl)):StepA P o st c (ke4 st id dl) (dIds st id dl):=by
 unfold rngE at h;split at h
 ·rename_i d m f g;split at h;rename_i kt et kv hk b;simp only [qb,qj] at h;obtain ⟨rfl,rfl⟩:=h;exact ku5 ho (e.get f) hk g b a
  ·cases h
 ·cases h
theorem kzv {x:Operand} {dl:Dl} (ho:o.op = .next x false) (h:nxtE st.eval (kab st.heap) x=some (c,dl)):StepA P o st c (ke4 st id dl) (dIds st id dl):=by
 unfold nxtE at h;split at h
 ·rename_i i e;split at h
  ·rename_i m since seen stepped a;split at h
   ·rename_i kv b;replace h:=kam h;obtain ⟨d,h⟩:=h;simp only [qn] at d;obtain ⟨b1,b2⟩:=d;rw [qf b1] at a;split at h;rename_i hl;simp only [qb,qj] at h;obtain ⟨rfl,rfl⟩:=h;exact (kuo ho e a b (qk b2) hl).step
    ·rename_i j hl;split at h;rename_i p hp;replace h:=kam h;obtain ⟨d,h⟩:=h;simp only [qb,qj] at h;obtain ⟨rfl,rfl⟩:=h;exact kzq ho e a b (qk b2) hl hp d
     ·cases h
    ·cases h
   ·cases h
  ·cases h
 ·cases h
theorem kps (i:TOk P T) {x y:Operand} {e:TypeId} {de:TD} {n:Nat} {ys:List AV} {dl:Dl} (a:st.ids.contains id=false) (ho:o.op = .call { callee := .builtin .append,args:=#[x,y],argTypes:=#[t,tx] }) (j:kad T t=some d) (hk:d.kind = .slice e) (b:kad T e=some de)
  (l:0<de.size) (f:de.zero.length=de.size) (hy:srcE T de.size st tx (st.eval y)=some (n,ys)) (h:appE.grow st.eval (kab st.heap) id x e de n ys=some (c,dl)):StepA P o st c (ke4 st id dl) (dIds st id dl):=by
 unfold appE.grow at h;split at h;rename_i m k xs p;replace h:=kam h;obtain ⟨g,h⟩:=h;simp only [qn] at g;simp only [qb,qj] at h;obtain ⟨rfl,rfl⟩:=h;exact kuc ho i j hk b l f p hy (by simpa [qbd] using g.1) (qk g.2) a
 ·cases h
theorem k0t (l:TOk P T) {x y:Operand} {dl:Dl} (p:st.ids.contains id=false) (ho:o.op = .call { callee := .builtin .append,args:=#[x,y],argTypes:=#[t,tx] }) (h:appE T st.eval (kab st.heap) t tx id x y=some (c,dl)):StepA P o st c (ke4 st id dl) (dIds st id dl):=by
 unfold appE at h;split at h
 ·rename_i d q;split at h
  ·rename_i e hk;split at h
   ·rename_i de b;split at h
    ·rename_i ys0 hy;split at h;rename_i r hr;obtain ⟨m,cc,xs⟩:=r;simp only [qb,qj] at h;obtain ⟨rfl,rfl⟩:=h;exact (k15 ho l q hk b hr hy).step
     ·cases h
    ·rename_i n ys _ hy;replace h:=kam h;obtain ⟨s,h⟩:=h;simp only [qn] at s;have v:=qk s.1;have j:=qf s.2;split at h
     ·rename_i i g off m u;split at h;rename_i g' e' sz cells f;replace h:=kam h;obtain ⟨a,h⟩:=h;simp only [qn] at a;obtain ⟨b1,b2,b3,b4,b5,b6⟩:=a;obtain rfl:=qf b1;obtain rfl:=qf b2;obtain rfl:=qf b3;obtain rfl:=qf b4;simp only [qb,qj] at h;obtain ⟨rfl,rfl⟩:=h;exact k0e ho l q hk b j u f (qf b5) hy (qk b6)
      ·cases h
     ·rename_i i g off m k u;cases hr:Nat.ble (m+n) k with
      | true=>
       rw [hr] at h;simp only [qe] at h;split at h;rename_i g' cells f;replace h:=kam h;obtain ⟨a,h⟩:=h;simp only [qn] at a;obtain rfl:=qf a.1;obtain ⟨rfl,e2,e3⟩:=km1 (id:=id) f h;rw [e2,e3];exact ktj ho l q hk b u f hy (qk hr) (qk a.2)
       ·cases h
      | false=>
       rw [hr] at h;exact kps l p ho q hk b v j hy h
     ·exact kps l p ho q hk b v j hy h
    ·cases h
   ·cases h
  ·cases h
 ·cases h
theorem kx7 (j:TOk P T) {x y:Operand} {dl:Dl} (ho:o.op = .call { callee := .builtin .copy,args:=#[x,y],argTypes:=#[t,tx] }) (h:cpyE T st.eval (kab st.heap) t x y=some (c,dl)):StepA P o st c (ke4 st id dl) (dIds st id dl):=by
 unfold cpyE at h;split at h
 ·rename_i d k;split at h
  ·rename_i e hk;split at h
   ·rename_i de b;split at h
    ·rename_i i g off len cap n c2 ys l hy;split at h;rename_i g' cells a;replace h:=kam h;obtain ⟨f,h⟩:=h;simp only [qn] at f;obtain rfl:=qf f.1;obtain ⟨rfl,e2,e3⟩:=km1 (id:=id) a h;rw [e2,e3];exact ky1 ho j k hk b l a hy (qk f.2)
     ·cases h
    ·cases h
   ·cases h
  ·cases h
 ·cases h
theorem sE_ok (b:TOk P T) (i:ZOk P Z) {mu:Bool} {dl:Dl} (a:st.ids.contains id=false) (h:sE T Z st.eval (kab st.heap) mu id o=some (c,dl)):StepA P o st c (ke4 st id dl) (dIds st id dl):=by
 unfold sE at h;split at h;rename_i e x ho;replace h:=kam h;obtain ⟨j,h⟩:=h;simp only [qb,qj] at h;obtain ⟨rfl,rfl⟩:=h;exact kxk ho rfl j a
 ·rename_i e ho;split at h
  ·rename_i d k;split at h;rename_i cells l;simp only [qb,qj] at h;obtain ⟨rfl,rfl⟩:=h;exact kmu ho (b.get k) l a
   ·cases h
  ·cases h
 rename_i ho;exact kyd b ho h;rename_i ho;exact kzj b a ho h;rename_i ho;exact kzi b a ho h;rename_i ho;simp only [qb,qj] at h;obtain ⟨rfl,rfl⟩:=h;exact kr9 ho a;rename_i ho;exact k0d b ho h;rename_i ho;exact kyp b a ho h;rename_i ho;exact kzv ho h
 ·rename_i cl ho;obtain ⟨callee,args,tys⟩:=cl;simp only at h;split at h;rename_i x y t tx f g;have e1:args=#[x,y]:=(by apply qa8;simpa using f);have e2:tys=#[t,tx]:=(by apply qa8;simpa using g);rw [e1,e2] at ho;exact k0t b a ho h;rename_i x y t tx f g;have e1:args=#[x,y]:=(by apply qa8;simpa using f);have e2:tys=#[t,tx]:=(by apply qa8;simpa using g);rw [e1,e2] at ho;exact kx7 b ho h
  ·exact kxl h b i
 ·exact kxl h b i
end
end Go.Proofs.YtpnnpkmjohkgiaaGreatDoor
