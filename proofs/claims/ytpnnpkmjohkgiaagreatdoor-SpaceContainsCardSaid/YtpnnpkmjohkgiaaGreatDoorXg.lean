import Derived.Test.YtpnnpkmjohkgiaaGreatDoorXl
set_option linter.all false
namespace Go.Proofs.YtpnnpkmjohkgiaaGreatDoor
open Go Go.RowKit
section
variable {P:Program} {F S0:Nat->Prop} {N0:Nat} {w w':World} {S S':Nat->Prop} {ψ ψ':Env} {K:Nat->Prop} {T:List (TypeId×TD)} {Z:List (TypeId×Value)} {o:Oper} {a:Act} {st:St} {t tx:TypeId} {d:TD} {id:Nat} {c:AV}
theorem kaj {α:Type} {b:Bool} {x:Option α} {y:α} (h:(bif b then x else none)=some y):b=true/\x=some y:=by
 cases b with
 | false=>cases h
 | true=>exact ⟨rfl,h⟩
theorem kzm (g:TOk P T) {s:TypeId} {x:Operand} {f:Nat} (ho:o.op = .fieldAddr s x f) (h:fldE T st.eval (kaa st.heap) s x f=some c):NStep P o st c:=by
 unfold fldE at h;split at h
 ·rename_i d i;split at h
  ·rename_i fs hk;split at h
   ·rename_i ft off hf;split at h
    ·rename_i df b;cases a:Nat.beq df.size 0 with
     | true=>rw [a] at h;cases h
     | false=>
      rw [a] at h;exact kwb ho (g.get i) hk hf (g.get b) (fun e=>by rw [e] at a;cases a) h
    ·cases h
   ·cases h
  ·cases h
 ·cases h
theorem k0z (f:TOk P T) {x y:Operand} (ho:o.op = .indexAddr t x y) (h:idxE T st.eval (kaa st.heap) t x y=some c):NStep P o st c:=by
 unfold idxE at h;split at h
 ·rename_i d k i j hy;replace h:=kaj h;obtain ⟨h0,h⟩:=h;have h0:0<=i:=by simpa using h0
  split at h
  ·rename_i e hk;split at h
   ·rename_i de a;split at h
    ·rename_i id g off len cap p;split at h;rename_i g' cells l;replace h:=kaj h;obtain ⟨b,h⟩:=h;simp only [qm,qai] at b;obtain rfl:=qf b.1;injection h with h;subst h;exact k1s ho (f.get j) hk (f.get a) p l hy h0 b.2
     ·cases h
    ·split at h
     ·rename_i xs hl;split at h;rename_i z m;replace h:=kaj h;obtain ⟨b,h⟩:=h;injection h with h;subst h;exact kq4 ho (f.get j) hk (f.get a) hl (fun z m=>qf (ql.1 b z m)) hy h0 m rfl
      ·cases h
     ·cases h
   ·cases h
  ·rename_i n e hk;split at h;rename_i de a;replace h:=kaj h;obtain ⟨b,h⟩:=h;exact k2b ho (f.get j) hk (f.get a) hy h0 (by simpa using b) h
   ·cases h
  ·cases h
 ·cases h
theorem k0m (e:TOk P T) {x y:Operand} (ho:o.op = .index t x y) (h:bytE T st.eval (kaa st.heap) t x y=some c):NStep P o st c:=by
 unfold bytE at h;split at h
 ·rename_i d s k i f g hy;split at h
  ·rename_i hk;replace h:=kaj h;obtain ⟨h0,h⟩:=h;split at h;rename_i b j;injection h with h;subst h;have a:s.data[i.toNat]?=some b:=(by simpa using j);exact k2l ho (e.get f) hk g hy (by simpa using h0) (c:=b) (by obtain ⟨hl,a⟩:=qap.1 a;rw [<- a];exact getElem?_pos s i.toNat hl)
   ·cases h
  ·cases h
 ·cases h
theorem kyx {s:BA} {l h:Nat} (h1:l<=h) (a:h<=s.size):cutB s l h=s.extract l h:=by apply ByteArray.ext;rw [ByteArray.data_extract];apply qa5;simp [cutB,Array.toList_extract,List.extract_eq_take_drop,List.drop_take]
theorem kod (s:BA):kh2 s=s.size:=by unfold kh2;rw [qal];rfl
theorem k1c {x:Operand} {lo hi:Option Operand} {s:BA} {L H:Nat} (ho:o.op = .slice t x lo hi none) (e:TdOk P t d) (hk:d.kind = .str) (f:st.eval x = .fz (.atom (.string s))) (hl:kcd st 0 lo=some L) (c:kcd st (kh2 s) hi=some H) (h1:L<=H) (b:H<=kh2 s):
  NStep P o st (.fz (.atom (.string (cutB s L H)))):=by
 intro ψ S a w ht g;have hv:=Sim.eval_tmps ht x;rw [f] at hv;rw [kod] at c b;have e1:=kfa (P:=P) (w:=w) (isS:=false) (mx:=none) (cap:=s.size) (M:=s.size) (kbd ht hl) (kbd ht c) (.inl ⟨rfl,rfl⟩) h1 b (qx _) (fun h=>by cases h);refine kae (w':=w) (v := .string (s.extract L H)) ?_ ⟨kag _,by rw [kyx h1 b];exact .fz (.atom rfl)⟩;simp only [Option.map_none] at e1;simp [execOp,ho,Instr.sliceAt,Instr.slice,run_underlying (e.str hk),hv.atom,e1]
theorem k0u (p:TOk P T) {x:Operand} {lo hi mx:Option Operand} (ho:o.op = .slice t x lo hi mx) (h:slcE T st.eval (kaa st.heap) t x lo hi mx=some c):NStep P o st c:=by
 unfold slcE at h;split at h
 ·rename_i d q;split at h
  ·rename_i hk;split at h
   ·rename_i s l;split at h;rename_i L H f i;replace h:=kaj h;obtain ⟨a,h⟩:=h;simp only [qm] at a;injection h with h;subst h;exact k1c ho (p.get q) hk l f i (qj a.1) (qj a.2)
    ·cases h
   ·cases h
  ·rename_i e hk;split at h
   ·rename_i de b;split at h
    ·rename_i id g off len k l;split at h;rename_i g' cells L H M j f i m;replace h:=kaj h;obtain ⟨a,h⟩:=h;simp only [qm,Bool.or_eq_true,Bool.not_eq_true'] at a;obtain ⟨b1,b2,b3,b4,b5⟩:=a;obtain rfl:=qf b1;injection h with h;subst h;exact n_slB ho p q hk b l j f i m (qj b2) (qj b3) (qj b4) (fun hm=>b5.elim (fun h=>by rw [hm] at h;cases h) fun h=>h)
     ·cases h
    ·rename_i id g len l;split at h
     ·rename_i g' cells L H j f i;split at h;replace h:=kaj h;obtain ⟨a,h⟩:=h;simp only [qm] at a;obtain ⟨b1,b2,b3⟩:=a;obtain rfl:=qf b1;obtain rfl:=qf b2;injection h with h;subst h;exact n_slU ho p q hk b l j f i (qj b3)
      ·rename_i y;split at h;rename_i M m;replace h:=kaj h;obtain ⟨a,h⟩:=h;simp only [qm] at a;obtain ⟨b1,b2,b3,b4,b5⟩:=a;obtain rfl:=qf b1;injection h with h;subst h;exact n_slM ho p q hk b l j f i m (qj b2) (qj b3) (qj b4) b5
       ·cases h
     ·cases h
    ·rename_i l;split at h;rename_i f i m;replace h:=kaj h;obtain ⟨a,h⟩:=h;simp only [Bool.or_eq_true,Bool.not_eq_true'] at a;injection h with h;subst h;exact n_sl0 ho p q hk b l f i m (fun hm=>a.elim (fun h=>by rw [hm] at h;cases h) fun h=>h)
     ·cases h
    ·split at h
     ·rename_i s n xs hl;split at h
      ·rename_i L H f i;replace h:=kaj h;obtain ⟨a,h⟩:=h;simp only [qm] at a;obtain ⟨b1,b2,b3⟩:=a;obtain rfl:=qf b1;split at h;injection h with h;subst h;exact n_slF ho p q hk b hl f i (qj b2) (qj b3)
       ·rename_i y;split at h;rename_i M m;replace h:=kaj h;obtain ⟨a,h⟩:=h;simp only [qm] at a;obtain rfl:=qf a.1;injection h with h;subst h;exact k1l ho p q hk b hl f i m (qj b2) (qj b3) a.2
        ·cases h
      ·cases h
     ·cases h
   ·cases h
  ·rename_i n e hk;split at h
   ·rename_i de id g off b l;split at h;rename_i g' cells L H M j f i m;replace h:=kaj h;obtain ⟨a,h⟩:=h;simp only [qm,Bool.or_eq_true,Bool.not_eq_true'] at a;obtain ⟨b1,b2,b3,b4,b5,b6⟩:=a;obtain rfl:=qf b1;injection h with h;subst h;exact kzi ho p q hk b l j f i m (qj b2) (qj b3) (qj b4) (fun hm=>b5.elim (fun h=>by rw [hm] at h;cases h) fun h=>h) (qj b6)
    ·cases h
   ·cases h
  ·cases h
 ·cases h
theorem kzl (f:TOk P T) {x:Operand} (ho:o.op = .call { callee := .builtin .len,args:=#[x],argTypes:=#[t] }) (h:lenE T st.eval (kaa st.heap) x t=some c):NStep P o st c:=by
 unfold lenE at h;split at h
 ·rename_i d i;split at h
  ·rename_i e id g off len cap hk b;split at h;rename_i g' cells a;replace h:=kaj h;obtain ⟨j,h⟩:=h;obtain rfl:=qf j;injection h with h;subst h;exact k1y ho (f.get i) hk b a
   ·cases h
  ·rename_i hk _;split at h;rename_i n hn;injection h with h;subst h;exact km4 ho (f.get i) hk hn
   ·cases h
  rename_i s hk b;injection h with h;subst h;rw [kod];exact kn3 ho (f.get i) hk b
  ·rename_i kt et id hk b;split at h;rename_i kv a;injection h with h;subst h;exact k1o ho (f.get i) hk b a
   ·cases h
  ·cases h
 ·cases h
theorem k0o (a:TOk P T) {x:Operand} (ho:o.op = .call { callee := .builtin .cap,args:=#[x],argTypes:=#[t] }) (h:capE T st.eval (kaa st.heap) x t=some c):NStep P o st c:=by
 unfold capE at h;split at h
 ·rename_i d b;split at h
  ·rename_i e hk;split at h
   ·rename_i de f;split at h;rename_i m k ys hr;injection h with h;subst h;exact k2i ho (a.get b) hk hr
    ·cases h
   ·cases h
  ·cases h
 ·cases h
theorem kyi (b:TOk P T) {s:TypeId} {x:Operand} (ho:o.op = .convert s t x) (h:cnvE T st.eval (kaa st.heap) s t x=some c):NStep P o st c:=by
 unfold cnvE at h;split at h
 ·rename_i ds d hs f;split at h;rename_i k _ k' n hk g;injection h with h;subst h;exact kuk b ho hs f hk g;rename_i u hk a g;injection h with h;subst h;exact kq6 b ho hs a f hk g
  ·rename_i e hk a;split at h
   ·rename_i de i;split at h
    ·rename_i j;split at h
     ·rename_i n c' ys hr;split at h;rename_i xs hi;injection h with h;subst h;exact k1f b ho hs a i j f hk hr hi
      ·cases h
     ·cases h
    ·cases h
   ·cases h
  ·cases h
 ·cases h
theorem k2o (e:TOk P T) (f:ZOk P Z) {x y:Operand} {ok:Bool} (ho:o.op = .lookup t x y ok) (h:lkE T Z st.eval (kaa st.heap) t x y ok=some c):NStep P o st c:=by
 unfold lkE at h;split at h
 ·rename_i d id k g i hy;split at h
  ·rename_i kt et hk;split at h
   ·rename_i kd kv a b;replace h:=kaj h;obtain ⟨j,h⟩:=h;split at h
    ·rename_i r hr;split at h;rename_i c' hc;injection h with h;subst h;exact ktt ho e f g hk a i b hy j hr (by cases r <;> exact hc)
     ·cases h
    ·cases h
   ·cases h
  ·cases h
 ·cases h
theorem kuc {mx:Bool} {x y:Operand} {ts:Array TypeId} (ho:o.op = .call { callee := .builtin (bif mx then .max else .min),args:=#[x,y],argTypes:=ts }) (h:mmE st.eval (kaa st.heap) mx x y=some c):NStep P o st c:=by
 unfold mmE at h;split at h
 ·rename_i k m k' n b hy;replace h:=kaj h;obtain ⟨a,h⟩:=h;have a:k=k':=by simpa using a
  subst a;injection h with h;subst h;cases mx with
  | false=>exact kx5 ho b hy
  | true=>exact kx9 ho b hy
 ·cases h
theorem kw0 {x:Operand} {yt:TypeId} (ho:o.op = .binOp .neq t x (.const .nilIface) yt) (a:TdOk P t d) (hk:d.kind = .ifc) (b:st.eval x = .fz (.atom .nilIface)):NStep P o st (.fz (.atom (.bool false))):=
 khx true true ho a hk b (.inr ⟨rfl,rfl⟩)
theorem ksi (c:TOk P T) (a:kgt T t=true):P.underlying t=some .bool:=by
 unfold kgt at a;split at a
 ·rename_i d f;split at a;rename_i hk;obtain ⟨_,e,h1,b⟩:=c.get f;rw [hk] at b;cases e <;> simp [kah] at b;exact h1
  ·cases a
 ·cases a
theorem krf (a:TOk P T) {op:BinOp} {x y:Operand} {yt:TypeId} {r:Bool} (ho:o.op = .binOp op t x y yt) (b:(r=true/\st.eval x = .fz (.atom nilV))\/(r=false/\((∃ id g off len cap cells,st.eval x = .bsl id g off len cap/\objC st id=some (g,cells))\/∃ s n z zs,lstX (st.eval x)=some (s,n,z::zs)))) (hy:st.eval y = .fz (.atom nilV))
  (h:binE.nilE T op t r=some c):NStep P o st c:=by
 unfold binE.nilE at h;split at h
 ·rename_i d f;split at h;rename_i e hk;injection h with h;subst h;exact kua false r ho ((a.get f).slice hk) b hy;rename_i e hk;injection h with h;subst h;exact kua true r ho ((a.get f).slice hk) b hy
  ·cases h
 ·cases h
theorem k06 {z:AV} {r:Bool} (h:nilX (kaa st.heap) z=some r):(r=true/\z = .fz (.atom nilV))\/(r=false/\((∃ id g off len cap cells,z = .bsl id g off len cap/\objC st id=some (g,cells))\/∃ s n x xs,lstX z=some (s,n,x::xs))):=by
 unfold nilX at h;split at h;injection h with h;exact .inl ⟨h.symm,rfl⟩
 ·rename_i id g off len cap;split at h;rename_i g' cells a;replace h:=kaj h;obtain ⟨b,h⟩:=h;obtain rfl:=qf b;injection h with h;exact .inr ⟨h.symm, .inl ⟨id,g,off,len,cap,cells,rfl,a⟩⟩
  ·cases h
 ·split at h;rename_i s n x xs hl;injection h with h;exact .inr ⟨h.symm, .inr ⟨s,n,x,xs,hl⟩⟩
  ·cases h
theorem k0s (b:TOk P T) {op:BinOp} {x y:Operand} {yt:TypeId} (ho:o.op = .binOp op t x y yt) (h:binE T st.eval (kaa st.heap) op t x y=some c):NStep P o st c:=by
 unfold binE at h;split at h
 ·split at h
  ·rename_i d e a;split at h;rename_i hk;injection h with h;subst h;exact kw0 ho (b.get e) hk a
   ·cases h
  ·cases h
 ·split at h;rename_i a hy;exact krf b ho (.inl ⟨rfl,a⟩) hy h
  ·rename_i u v _ a hy;split at h;rename_i r hr;injection h with h;subst h;exact kyf (kgt T t) (fun f=>ksi b f) ho a hy hr
   ·cases h
  ·rename_i hy _ _;split at h;rename_i r hr;exact krf b ho (k06 hr) hy h
   ·cases h
  ·cases h
theorem k0v {x:Operand} (ho:o.op = .entry x) (h:entE st.eval (kaa st.heap) x=some c):NStep P o st c:=by
 unfold entE at h;split at h
 ·rename_i id e;split at h
  ·rename_i m since seen stepped a;split at h
   ·rename_i kv j b f;split at h;rename_i p hp;replace h:=kaj h;obtain ⟨d,h⟩:=h;simp only [qm] at d;injection h with h;subst h;obtain ⟨ys,rfl⟩:∃ ys,seen=ys++[j]:=(by obtain ⟨ys,rfl⟩:=List.getLast?_eq_some_iff.1 f;exact ⟨ys,rfl⟩);rw [qf d.1] at a;exact kxf ho e a b hp d.2
    ·cases h
   ·cases h
  ·cases h
 ·cases h
theorem kvd (a:TOk P T) {parts:Array (Nat×Operand)} (ho:o.op = .build t parts) (h:ku1 T st.eval t parts=some c):NStep P o st c:=kqv a ho h
theorem kq8 (g:TOk P T) {n:Nat} {parts:Array (Nat×Operand)} (ho:o.op = .buildSlice t n parts) (h:litH T st.eval t n parts=some c):NStep P o st c:=by
 unfold litH at h;split at h
 ·rename_i d i;split at h
  ·rename_i e hk;split at h
   ·rename_i de b;split at h;rename_i xs f;replace h:=kaj h;obtain ⟨a,h⟩:=h;injection h with h;subst h;simp only [qm] at a;exact kx2 ho (g.get i) hk (g.get b) (qj a.2.1) (qf a.1) (qj a.2.2) f
    ·cases h
   ·cases h
  ·cases h
 ·cases h
theorem koo (a:TOk P T) (m:ZOk P Z) (h:nE T Z st.eval (kaa st.heap) o=some c):NStep P o st c:=by
 unfold nE at h;split at h;rename_i ho;exact k0s a ho h
 ·rename_i t x ho;split at h;rename_i d xs p k;exact kyn ho (a.get p) k h
  ·cases h
 rename_i ho;exact kzm a ho h;rename_i ho;exact k1q ho h;rename_i ho;exact k0z a ho h;rename_i ho;exact k0m a ho h;rename_i ho;exact k0u a ho h;rename_i ho;exact kyi a ho h;rename_i ho;exact k2o a m ho h;rename_i ho;exact k0v ho h
 ·rename_i cl ho;obtain ⟨callee,args,tys⟩:=cl;simp only at h;split at h;rename_i x t e l;rw [kf5 e,kf5 l] at ho;exact kzl a ho h;rename_i x t e l;rw [kf5 e,kf5 l] at ho;exact k0o a ho h;rename_i x y e;have:args=#[x,y]:=(by apply qa5;simpa using e);rw [this] at ho;exact kuc (mx:=false) ho h;rename_i x y e;have:args=#[x,y]:=(by apply qa5;simpa using e);rw [this] at ho;exact kuc (mx:=true) ho h
  ·cases h
 rename_i x ho;injection h with h;subst h;exact kmm (.inl ho);rename_i x ho;injection h with h;subst h;exact kmm (.inr ho)
 ·rename_i cc x y ho;split at h;rename_i b j;injection h with h;subst h;exact kur ho j
  ·cases h
 ·rename_i op t x ho;split at h
  ·rename_i u q;split at h;rename_i r hr;injection h with h;subst h;exact n_un ho q hr
   ·cases h
  ·cases h
 rename_i x i ho;exact kn1 ho h;rename_i t parts ho;exact kvd a ho h;rename_i t n parts ho;exact kq8 a ho h
 ·rename_i f first cap ho
  cases j:first.isEmpty with
  | false=>
   rw [j] at h;cases g:cap.isEmpty with
   | false=>rw [g] at h;cases h
   | true=>
    rw [g] at h;have:cap=#[]:=(by simpa using g);subst this;simp only [qg,qe,qb] at h;subst h;exact kxy ho
  | true=>
   rw [j] at h;have:first=#[]:=by simpa using j
   subst this;simp only [qe,qb] at h;subst h;exact kvf ho
 ·cases h
theorem kx4 {dl:Dl} (h:(match nE T Z st.eval (kaa st.heap) o with | some c=>some (c,Dl.no) | none=>none)=some (c,dl)) (a:TOk P T) (b:ZOk P Z):kam P o st c (kfg st id dl) (dIds st id dl):=by
 split at h;rename_i c' hc;simp only [qb,qi] at h;obtain ⟨rfl,rfl⟩:=h;exact (koo a b hc).step
 ·cases h
theorem knj {i g:Nat} {cells cells':List AV} {x:AV} {dl:Dl} (a:objC st i=some (g,cells)) (h:setE (kaa st.heap) i x cells'=some (c,dl)):x=c/\kfg st id dl=putC st i cells'/\dIds st id dl=st.ids:=by
 unfold setE at h;split at h
 ·rename_i ob ho;simp only [qb,qi] at h;obtain ⟨rfl,rfl⟩:=h;unfold objC objH at a;rw [ho] at a;unfold putC;rw [ho];split at a;rename_i e cs b;injection b with b;subst b;exact ⟨rfl,rfl,rfl⟩;rename_i g e sz cs b;injection b with b;subst b;exact ⟨rfl,rfl,rfl⟩
  ·cases a
 ·cases h
theorem kyv (e:TOk P T) {x y:Operand} {dl:Dl} (ho:o.op = .store t x y) (h:stoE T st.eval (kaa st.heap) t x y=some (c,dl)):kam P o st c (kfg st id dl) (dIds st id dl):=by
 unfold stoE at h;split at h
 ·rename_i d i n off f j;split at h;rename_i g cells a;replace h:=kaj h;obtain ⟨b,h⟩:=h;simp only [qm] at b;obtain ⟨b1,b2,b3,b4⟩:=b;obtain rfl:=qf b1;obtain ⟨rfl,e2,e3⟩:=knj (id:=id) a h;rw [e2,e3];exact kwe ho (e.get f) j a rfl (qf b2) b3 (qj b4)
  ·cases h
 ·cases h
theorem kzx (g:TOk P T) {x y:Operand} {dl:Dl} (a:st.ids.contains id=false) (ho:o.op = .makeSlice t x y) (h:mksE T st.eval (kaa st.heap) t id x y=some (c,dl)):kam P o st c (kfg st id dl) (dIds st id dl):=by
 unfold mksE at h;split at h
 ·rename_i d i;split at h
  ·rename_i e hk;split at h
   ·rename_i de b;split at h;rename_i zv k n k' m j l hy;replace h:=kaj h;obtain ⟨f,h⟩:=h;simp only [qm,qai] at f;obtain ⟨b1,b2,b3,b4,b5,b6⟩:=f;simp only [qb,qi] at h;obtain ⟨rfl,rfl⟩:=h;exact e_mkE ho g i hk b (qf b1) j b2 l hy b3 b4 b5 b6 a
    ·cases h
   ·cases h
  ·cases h
 ·cases h
theorem kzw (a:TOk P T) {mu:Bool} {n:Nat} {parts:Array (Nat×Operand)} {dl:Dl} (b:st.ids.contains id=false) (ho:o.op = .buildSlice t n parts) (h:litE T st.eval (kaa st.heap) mu t n id parts=some (c,dl)):kam P o st c (kfg st id dl) (dIds st id dl):=by
 unfold litE at h;split at h
 ·rename_i c' hc;simp only [qb,qi] at h;obtain ⟨rfl,rfl⟩:=h;cases mu with
  | true=>cases hc
  | false=>exact (kq8 a ho hc).step
 ·split at h
  ·rename_i d j;split at h
   ·rename_i e hk;split at h
    ·rename_i de f;split at h;rename_i ys g;replace h:=kaj h;obtain ⟨i,h⟩:=h;simp only [qm] at i;obtain ⟨b1,b2,b3⟩:=i;simp only [qb,qi] at h;obtain ⟨rfl,rfl⟩:=h;exact k2e ho (a.get j) hk (a.get f) (qj b2) (qf b1) (qj b3) g b
     ·cases h
    ·cases h
   ·cases h
  ·cases h
theorem k0q (e:TOk P T) {x y v:Operand} {dl:Dl} (ho:o.op = .mapUpdate t x y v) (h:mpuE T st.eval (kaa st.heap) t x y v=some (c,dl)):kam P o st c (kfg st id dl) (dIds st id dl):=by
 unfold mpuE at h;split at h
 ·rename_i d i k f g hy;split at h
  ·rename_i kt et hk;split at h
   ·rename_i kd kv a b;replace h:=kaj h;obtain ⟨j,h⟩:=h;split at h;rename_i kv' hp;simp only [qb,qi] at h;obtain ⟨rfl,rfl⟩:=h;exact kpy ho e f hk a g b hy j hp
    ·cases h
   ·cases h
  ·cases h
 ·cases h
theorem ky5 (e:TOk P T) {x:Operand} {dl:Dl} (a:st.ids.contains id=false) (ho:o.op = .range t x) (h:rngE T st.eval (kaa st.heap) t id x=some (c,dl)):kam P o st c (kfg st id dl) (dIds st id dl):=by
 unfold rngE at h;split at h
 ·rename_i d m f g;split at h;rename_i kt et kv hk b;simp only [qb,qi] at h;obtain ⟨rfl,rfl⟩:=h;exact kvs ho (e.get f) hk g b a
  ·cases h
 ·cases h
theorem k0a {x:Operand} {dl:Dl} (ho:o.op = .next x false) (h:nxtE st.eval (kaa st.heap) x=some (c,dl)):kam P o st c (kfg st id dl) (dIds st id dl):=by
 unfold nxtE at h;split at h
 ·rename_i i e;split at h
  ·rename_i m since seen stepped a;split at h
   ·rename_i kv b;replace h:=kaj h;obtain ⟨d,h⟩:=h;simp only [qm] at d;obtain ⟨b1,b2⟩:=d;rw [qf b1] at a;split at h;rename_i hl;simp only [qb,qi] at h;obtain ⟨rfl,rfl⟩:=h;exact (kva ho e a b (qj b2) hl).step
    ·rename_i j hl;split at h;rename_i p hp;replace h:=kaj h;obtain ⟨d,h⟩:=h;simp only [qb,qi] at h;obtain ⟨rfl,rfl⟩:=h;exact kz4 ho e a b (qj b2) hl hp d
     ·cases h
    ·cases h
   ·cases h
  ·cases h
 ·cases h
theorem kp7 (i:TOk P T) {x y:Operand} {e:TypeId} {de:TD} {n:Nat} {ys:List AV} {dl:Dl} (a:st.ids.contains id=false) (ho:o.op = .call { callee := .builtin .append,args:=#[x,y],argTypes:=#[t,tx] }) (j:kac T t=some d) (hk:d.kind = .slice e) (b:kac T e=some de)
  (l:0<de.size) (f:de.zero.length=de.size) (hy:srcE T de.size st tx (st.eval y)=some (n,ys)) (h:appE.grow st.eval (kaa st.heap) id x e de n ys=some (c,dl)):kam P o st c (kfg st id dl) (dIds st id dl):=by
 unfold appE.grow at h;split at h;rename_i m k xs p;replace h:=kaj h;obtain ⟨g,h⟩:=h;simp only [qm] at g;simp only [qb,qi] at h;obtain ⟨rfl,rfl⟩:=h;exact kuu ho i j hk b l f p hy (by simpa [qa8] using g.1) (qj g.2) a
 ·cases h
theorem k07 (l:TOk P T) {x y:Operand} {dl:Dl} (p:st.ids.contains id=false) (ho:o.op = .call { callee := .builtin .append,args:=#[x,y],argTypes:=#[t,tx] }) (h:appE T st.eval (kaa st.heap) t tx id x y=some (c,dl)):kam P o st c (kfg st id dl) (dIds st id dl):=by
 unfold appE at h;split at h
 ·rename_i d q;split at h
  ·rename_i e hk;split at h
   ·rename_i de b;split at h
    ·rename_i ys0 hy;split at h;rename_i r hr;obtain ⟨m,cc,xs⟩:=r;simp only [qb,qi] at h;obtain ⟨rfl,rfl⟩:=h;exact (k2h ho l q hk b hr hy).step
     ·cases h
    ·rename_i n ys _ hy;replace h:=kaj h;obtain ⟨s,h⟩:=h;simp only [qm] at s;have v:=qj s.1;have j:=qf s.2;split at h
     ·rename_i i g off m u;split at h;rename_i g' e' sz cells f;replace h:=kaj h;obtain ⟨a,h⟩:=h;simp only [qm] at a;obtain ⟨b1,b2,b3,b4,b5,b6⟩:=a;obtain rfl:=qf b1;obtain rfl:=qf b2;obtain rfl:=qf b3;obtain rfl:=qf b4;simp only [qb,qi] at h;obtain ⟨rfl,rfl⟩:=h;exact k0r ho l q hk b j u f (qf b5) hy (qj b6)
      ·cases h
     ·rename_i i g off m k u;cases hr:Nat.ble (m+n) k with
      | true=>
       rw [hr] at h;simp only [qe] at h;split at h;rename_i g' cells f;replace h:=kaj h;obtain ⟨a,h⟩:=h;simp only [qm] at a;obtain rfl:=qf a.1;obtain ⟨rfl,e2,e3⟩:=knj (id:=id) f h;rw [e2,e3];exact kt1 ho l q hk b u f hy (qj hr) (qj a.2)
       ·cases h
      | false=>
       rw [hr] at h;exact kp7 l p ho q hk b v j hy h
     ·exact kp7 l p ho q hk b v j hy h
    ·cases h
   ·cases h
  ·cases h
 ·cases h
theorem kyp (j:TOk P T) {x y:Operand} {dl:Dl} (ho:o.op = .call { callee := .builtin .copy,args:=#[x,y],argTypes:=#[t,tx] }) (h:cpyE T st.eval (kaa st.heap) t x y=some (c,dl)):kam P o st c (kfg st id dl) (dIds st id dl):=by
 unfold cpyE at h;split at h
 ·rename_i d k;split at h
  ·rename_i e hk;split at h
   ·rename_i de b;split at h
    ·rename_i i g off len cap n c2 ys l hy;split at h;rename_i g' cells a;replace h:=kaj h;obtain ⟨f,h⟩:=h;simp only [qm] at f;obtain rfl:=qf f.1;obtain ⟨rfl,e2,e3⟩:=knj (id:=id) a h;rw [e2,e3];exact kzh ho j k hk b l a hy (qj f.2)
     ·cases h
    ·cases h
   ·cases h
  ·cases h
 ·cases h
theorem sE_ok (b:TOk P T) (i:ZOk P Z) {mu:Bool} {dl:Dl} (a:st.ids.contains id=false) (h:sE T Z st.eval (kaa st.heap) mu id o=some (c,dl)):kam P o st c (kfg st id dl) (dIds st id dl):=by
 unfold sE at h;split at h;rename_i e x ho;replace h:=kaj h;obtain ⟨j,h⟩:=h;simp only [qb,qi] at h;obtain ⟨rfl,rfl⟩:=h;exact kx3 ho rfl j a
 ·rename_i e ho;split at h
  ·rename_i d k;split at h;rename_i cells l;simp only [qb,qi] at h;obtain ⟨rfl,rfl⟩:=h;exact knd ho (b.get k) l a
   ·cases h
  ·cases h
 rename_i ho;exact kyv b ho h;rename_i ho;exact kzx b a ho h;rename_i ho;exact kzw b a ho h;rename_i ho;simp only [qb,qi] at h;obtain ⟨rfl,rfl⟩:=h;exact ksr ho a;rename_i ho;exact k0q b ho h;rename_i ho;exact ky5 b a ho h;rename_i ho;exact k0a ho h
 ·rename_i cl ho;obtain ⟨callee,args,tys⟩:=cl;simp only at h;split at h;rename_i x y t tx f g;have e1:args=#[x,y]:=(by apply qa5;simpa using f);have e2:tys=#[t,tx]:=(by apply qa5;simpa using g);rw [e1,e2] at ho;exact k07 b a ho h;rename_i x y t tx f g;have e1:args=#[x,y]:=(by apply qa5;simpa using f);have e2:tys=#[t,tx]:=(by apply qa5;simpa using g);rw [e1,e2] at ho;exact kyp b ho h
  ·exact kx4 h b i
 ·exact kx4 h b i
end
end Go.Proofs.YtpnnpkmjohkgiaaGreatDoor
