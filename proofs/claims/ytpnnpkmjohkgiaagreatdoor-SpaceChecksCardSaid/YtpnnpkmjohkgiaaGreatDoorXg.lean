import Derived.Test.YtpnnpkmjohkgiaaGreatDoorXl
set_option linter.all false
namespace Go.Proofs.YtpnnpkmjohkgiaaGreatDoor
open Go Go.RowKit
section
variable {P:Program} {F S0:Nat->Prop} {N0:Nat} {w w':World} {S S':Nat->Prop} {ψ ψ':Env} {K:Nat->Prop} {T:List (TypeId×TD)} {Z:List (TypeId×Value)} {o:Oper} {a:Act} {st:St} {t tx:TypeId} {d:TD} {id:Nat} {c:AV}
theorem kak {α:Type} {b:Bool} {x:Option α} {y:α} (h:(bif b then x else none)=some y):b=true/\x=some y:=by
 cases b with
 | false=>cases h
 | true=>exact ⟨rfl,h⟩
theorem k43 (g:TOk P T) {s:TypeId} {x:Operand} {f:Nat} (i:o.op = .fieldAddr s x f) (h:fldE T st.eval (kaa st.heap) s x f=some c):NStep P o st c:=by
 unfold fldE at h;split at h
 ·rename_i d j;split at h
  ·rename_i fs hk;split at h
   ·rename_i ft off k;split at h
    ·rename_i df b;cases a:Nat.beq df.size 0 with
     | true=>rw [a] at h;cases h
     | false=>
      rw [a] at h;exact k1j i (g.get j) hk k (g.get b) (fun e=>by rw [e] at a;cases a) h
    ·cases h
   ·cases h
  ·cases h
 ·cases h
theorem k6i (f:TOk P T) {x y:Operand} (j:o.op = .indexAddr t x y) (h:idxE T st.eval (kaa st.heap) t x y=some c):NStep P o st c:=by
 unfold idxE at h;split at h
 ·rename_i d k i l hy;replace h:=kak h;obtain ⟨h0,h⟩:=h;have h0:0<=i:=by simpa using h0
  split at h
  ·rename_i e hk;split at h
   ·rename_i de a;split at h
    ·rename_i id g off len cap q;split at h;rename_i g' cells m;replace h:=kak h;obtain ⟨b,h⟩:=h;simp only [qp,qa3] at b;obtain rfl:=qh b.1;injection h with h;subst h;exact k7b j (f.get l) hk (f.get a) q m hy h0 b.2
     ·cases h
    ·split at h
     ·rename_i xs hl;split at h;rename_i z p;replace h:=kak h;obtain ⟨b,h⟩:=h;injection h with h;subst h;exact kvm j (f.get l) hk (f.get a) hl (fun z p=>qh (qo.1 b z p)) hy h0 p rfl
      ·cases h
     ·cases h
   ·cases h
  ·rename_i n e hk;split at h;rename_i de a;replace h:=kak h;obtain ⟨b,h⟩:=h;exact k7v j (f.get l) hk (f.get a) hy h0 (by simpa using b) h
   ·cases h
  ·cases h
 ·cases h
theorem k54 (e:TOk P T) {x y:Operand} (f:o.op = .index t x y) (h:bytE T st.eval (kaa st.heap) t x y=some c):NStep P o st c:=by
 unfold bytE at h;split at h
 ·rename_i d s k i g j hy;split at h
  ·rename_i hk;replace h:=kak h;obtain ⟨h0,h⟩:=h;split at h;rename_i b l;injection h with h;subst h;have a:s.data[i.toNat]?=some b:=(by simpa using l);exact kzv f (e.get g) hk j hy (by simpa using h0) (c:=b) (by obtain ⟨hl,a⟩:=qaq.1 a;rw [<- a];exact getElem?_pos s i.toNat hl)
   ·cases h
  ·cases h
 ·cases h
theorem k4g {s:BA} {l h:Nat} (h1:l<=h) (a:h<=s.size):cutB s l h=s.extract l h:=by apply ByteArray.ext;rw [ByteArray.data_extract];apply qbd;simp [cutB,Array.toList_extract,List.extract_eq_take_drop,List.drop_take]
theorem ksi (s:BA):kki s=s.size:=by unfold kki;rw [qas];rfl
theorem k6u {x:Operand} {lo hi:Option Operand} {s:BA} {L H:Nat} (e:o.op = .slice t x lo hi none) (f:TdOk P t d) (hk:d.kind = .str) (g:st.eval x = .fz (.atom (.string s))) (hl:kda st 0 lo=some L) (c:kda st (kki s) hi=some H) (h1:L<=H) (b:H<=kki s):
  NStep P o st (.fz (.atom (.string (cutB s L H)))):=by
 intro ψ S a w ht i;have hv:=Sim.eval_tmps ht x;rw [g] at hv;rw [ksi] at c b;have e1:=kgu (P:=P) (w:=w) (isS:=false) (mx:=none) (cap:=s.size) (M:=s.size) (kbq ht hl) (kbq ht c) (.inl ⟨rfl,rfl⟩) h1 b (qy _) (fun h=>by cases h);refine kae (w':=w) (v := .string (s.extract L H)) ?_ ⟨kag _,by rw [k4g h1 b];exact .fz (.atom rfl)⟩;simp only [Option.map_none] at e1;simp [execOp,e,Instr.sliceAt,Instr.slice,run_underlying (f.str hk),hv.atom,e1]
theorem k6e (p:TOk P T) {x:Operand} {lo hi mx:Option Operand} (q:o.op = .slice t x lo hi mx) (h:slcE T st.eval (kaa st.heap) t x lo hi mx=some c):NStep P o st c:=by
 unfold slcE at h;split at h
 ·rename_i d r;split at h
  ·rename_i hk;split at h
   ·rename_i s l;split at h;rename_i L H f i;replace h:=kak h;obtain ⟨a,h⟩:=h;simp only [qp] at a;injection h with h;subst h;exact k6u q (p.get r) hk l f i (qn a.1) (qn a.2)
    ·cases h
   ·cases h
  ·rename_i e hk;split at h
   ·rename_i de b;split at h
    ·rename_i id g off len k l;split at h;rename_i g' cells L H M j f i m;replace h:=kak h;obtain ⟨a,h⟩:=h;simp only [qp,Bool.or_eq_true,Bool.not_eq_true'] at a;obtain ⟨b1,b2,b3,b4,b5⟩:=a;obtain rfl:=qh b1;injection h with h;subst h;exact n_slB q p r hk b l j f i m (qn b2) (qn b3) (qn b4) (fun hm=>b5.elim (fun h=>by rw [hm] at h;cases h) fun h=>h)
     ·cases h
    ·rename_i id g len l;split at h
     ·rename_i g' cells L H j f i;split at h;replace h:=kak h;obtain ⟨a,h⟩:=h;simp only [qp] at a;obtain ⟨b1,b2,b3⟩:=a;obtain rfl:=qh b1;obtain rfl:=qh b2;injection h with h;subst h;exact n_slU q p r hk b l j f i (qn b3)
      ·rename_i y;split at h;rename_i M m;replace h:=kak h;obtain ⟨a,h⟩:=h;simp only [qp] at a;obtain ⟨b1,b2,b3,b4,b5⟩:=a;obtain rfl:=qh b1;injection h with h;subst h;exact n_slM q p r hk b l j f i m (qn b2) (qn b3) (qn b4) b5
       ·cases h
     ·cases h
    ·rename_i l;split at h;rename_i f i m;replace h:=kak h;obtain ⟨a,h⟩:=h;simp only [Bool.or_eq_true,Bool.not_eq_true'] at a;injection h with h;subst h;exact n_sl0 q p r hk b l f i m (fun hm=>a.elim (fun h=>by rw [hm] at h;cases h) fun h=>h)
     ·cases h
    ·split at h
     ·rename_i s n xs hl;split at h
      ·rename_i L H f i;replace h:=kak h;obtain ⟨a,h⟩:=h;simp only [qp] at a;obtain ⟨b1,b2,b3⟩:=a;obtain rfl:=qh b1;split at h;injection h with h;subst h;exact n_slF q p r hk b hl f i (qn b2) (qn b3)
       ·rename_i y;split at h;rename_i M m;replace h:=kak h;obtain ⟨a,h⟩:=h;simp only [qp] at a;obtain rfl:=qh a.1;injection h with h;subst h;exact k64 q p r hk b hl f i m (qn b2) (qn b3) a.2
        ·cases h
      ·cases h
     ·cases h
   ·cases h
  ·rename_i n e hk;split at h
   ·rename_i de id g off b l;split at h;rename_i g' cells L H M j f i m;replace h:=kak h;obtain ⟨a,h⟩:=h;simp only [qp,Bool.or_eq_true,Bool.not_eq_true'] at a;obtain ⟨b1,b2,b3,b4,b5,b6⟩:=a;obtain rfl:=qh b1;injection h with h;subst h;exact k4z q p r hk b l j f i m (qn b2) (qn b3) (qn b4) (fun hm=>b5.elim (fun h=>by rw [hm] at h;cases h) fun h=>h) (qn b6)
    ·cases h
   ·cases h
  ·cases h
 ·cases h
theorem k42 (f:TOk P T) {x:Operand} (i:o.op = .call { callee := .builtin .len,args:=#[x],argTypes:=#[t] }) (h:lenE T st.eval (kaa st.heap) x t=some c):NStep P o st c:=by
 unfold lenE at h;split at h
 ·rename_i d j;split at h
  ·rename_i e id g off len cap hk b;split at h;rename_i g' cells a;replace h:=kak h;obtain ⟨k,h⟩:=h;obtain rfl:=qh k;injection h with h;subst h;exact k7h i (f.get j) hk b a
   ·cases h
  ·rename_i hk _;split at h;rename_i n hn;injection h with h;subst h;exact kqy i (f.get j) hk hn
   ·cases h
  rename_i s hk b;injection h with h;subst h;rw [ksi];exact kr4 i (f.get j) hk b
  ·rename_i kt et id hk b;split at h;rename_i kv a;injection h with h;subst h;exact k67 i (f.get j) hk b a
   ·cases h
  ·cases h
 ·cases h
theorem k56 (a:TOk P T) {x:Operand} (b:o.op = .call { callee := .builtin .cap,args:=#[x],argTypes:=#[t] }) (h:capE T st.eval (kaa st.heap) x t=some c):NStep P o st c:=by
 unfold capE at h;split at h
 ·rename_i d f;split at h
  ·rename_i e hk;split at h
   ·rename_i de g;split at h;rename_i m k ys hr;injection h with h;subst h;exact k73 b (a.get f) hk hr
    ·cases h
   ·cases h
  ·cases h
 ·cases h
theorem k31 (b:TOk P T) {s:TypeId} {x:Operand} (f:o.op = .convert s t x) (h:cnvE T st.eval (kaa st.heap) s t x=some c):NStep P o st c:=by
 unfold cnvE at h;split at h
 ·rename_i ds d hs g;split at h;rename_i k _ k' n hk i;injection h with h;subst h;exact kzc b f hs g hk i;rename_i u hk a i;injection h with h;subst h;exact kvq b f hs a g hk i
  ·rename_i e hk a;split at h
   ·rename_i de j;split at h
    ·rename_i l;split at h
     ·rename_i n c' ys hr;split at h;rename_i xs hi;injection h with h;subst h;exact k6y b f hs a j l g hk hr hi
      ·cases h
     ·cases h
    ·cases h
   ·cases h
  ·cases h
 ·cases h
theorem k77 (e:TOk P T) (f:ZOk P Z) {x y:Operand} {ok:Bool} (g:o.op = .lookup t x y ok) (h:lkE T Z st.eval (kaa st.heap) t x y ok=some c):NStep P o st c:=by
 unfold lkE at h;split at h
 ·rename_i d id k i j hy;split at h
  ·rename_i kt et hk;split at h
   ·rename_i kd kv a b;replace h:=kak h;obtain ⟨l,h⟩:=h;split at h
    ·rename_i r hr;split at h;rename_i c' hc;injection h with h;subst h;exact kye g e f i hk a j b hy l hr (by cases r <;> exact hc)
     ·cases h
    ·cases h
   ·cases h
  ·cases h
 ·cases h
theorem ky4 {mx:Bool} {x y:Operand} {ts:Array TypeId} (b:o.op = .call { callee := .builtin (bif mx then .max else .min),args:=#[x,y],argTypes:=ts }) (h:mmE st.eval (kaa st.heap) mx x y=some c):NStep P o st c:=by
 unfold mmE at h;split at h
 ·rename_i k m k' n d hy;replace h:=kak h;obtain ⟨a,h⟩:=h;have a:k=k':=by simpa using a
  subst a;injection h with h;subst h;cases mx with
  | false=>exact k3n b d hy
  | true=>exact k3t b d hy
 ·cases h
theorem k2d {x:Operand} {yt:TypeId} (a:o.op = .binOp .neq t x (.const .nilIface) yt) (b:TdOk P t d) (hk:d.kind = .ifc) (c:st.eval x = .fz (.atom .nilIface)):NStep P o st (.fz (.atom (.bool false))):=
 kj4 true true a b hk c (.inr ⟨rfl,rfl⟩)
theorem kw5 (c:TOk P T) (a:kiw T t=true):P.underlying t=some .bool:=by
 unfold kiw at a;split at a
 ·rename_i d f;split at a;rename_i hk;obtain ⟨_,e,h1,b⟩:=c.get f;rw [hk] at b;cases e <;> simp [kai] at b;exact h1
  ·cases a
 ·cases a
theorem kvx (a:TOk P T) {op:BinOp} {x y:Operand} {yt:TypeId} {r:Bool} (b:o.op = .binOp op t x y yt) (f:(r=true/\st.eval x = .fz (.atom nilV))\/(r=false/\((∃ id g off len cap cells,st.eval x = .bsl id g off len cap/\objC st id=some (g,cells))\/∃ s n z zs,lstX (st.eval x)=some (s,n,z::zs)))) (hy:st.eval y = .fz (.atom nilV))
  (h:binE.nilE T op t r=some c):NStep P o st c:=by
 unfold binE.nilE at h;split at h
 ·rename_i d i;split at h;rename_i e hk;injection h with h;subst h;exact ky2 false r b ((a.get i).slice hk) f hy;rename_i e hk;injection h with h;subst h;exact ky2 true r b ((a.get i).slice hk) f hy
  ·cases h
 ·cases h
theorem k6p {z:AV} {r:Bool} (h:nilX (kaa st.heap) z=some r):(r=true/\z = .fz (.atom nilV))\/(r=false/\((∃ id g off len cap cells,z = .bsl id g off len cap/\objC st id=some (g,cells))\/∃ s n x xs,lstX z=some (s,n,x::xs))):=by
 unfold nilX at h;split at h;injection h with h;exact .inl ⟨h.symm,rfl⟩
 ·rename_i id g off len cap;split at h;rename_i g' cells a;replace h:=kak h;obtain ⟨b,h⟩:=h;obtain rfl:=qh b;injection h with h;exact .inr ⟨h.symm, .inl ⟨id,g,off,len,cap,cells,rfl,a⟩⟩
  ·cases h
 ·split at h;rename_i s n x xs hl;injection h with h;exact .inr ⟨h.symm, .inr ⟨s,n,x,xs,hl⟩⟩
  ·cases h
theorem k6c (b:TOk P T) {op:BinOp} {x y:Operand} {yt:TypeId} (e:o.op = .binOp op t x y yt) (h:binE T st.eval (kaa st.heap) op t x y=some c):NStep P o st c:=by
 unfold binE at h;split at h
 ·split at h
  ·rename_i d f a;split at h;rename_i hk;injection h with h;subst h;exact k2d e (b.get f) hk a
   ·cases h
  ·cases h
 ·split at h;rename_i a hy;exact kvx b e (.inl ⟨rfl,a⟩) hy h
  ·rename_i u v _ a hy;split at h;rename_i r hr;injection h with h;subst h;exact k3z (kiw T t) (fun g=>kw5 b g) e a hy hr
   ·cases h
  ·rename_i hy _ _;split at h;rename_i r hr;exact kvx b e (k6p hr) hy h
   ·cases h
  ·cases h
theorem k6f {x:Operand} (e:o.op = .entry x) (h:entE st.eval (kaa st.heap) x=some c):NStep P o st c:=by
 unfold entE at h;split at h
 ·rename_i id f;split at h
  ·rename_i m since seen stepped a;split at h
   ·rename_i kv j b g;split at h;rename_i p hp;replace h:=kak h;obtain ⟨d,h⟩:=h;simp only [qp] at d;injection h with h;subst h;obtain ⟨ys,rfl⟩:∃ ys,seen=ys++[j]:=(by obtain ⟨ys,rfl⟩:=List.getLast?_eq_some_iff.1 g;exact ⟨ys,rfl⟩);rw [qh d.1] at a;exact k2x e f a b hp d.2
    ·cases h
   ·cases h
  ·cases h
 ·cases h
theorem k0c (a:TOk P T) {parts:Array (Nat×Operand)} (b:o.op = .build t parts) (h:kzt T st.eval t parts=some c):NStep P o st c:=kvd a b h
theorem kvs (g:TOk P T) {n:Nat} {parts:Array (Nat×Operand)} (i:o.op = .buildSlice t n parts) (h:litH T st.eval t n parts=some c):NStep P o st c:=by
 unfold litH at h;split at h
 ·rename_i d j;split at h
  ·rename_i e hk;split at h
   ·rename_i de b;split at h;rename_i xs f;replace h:=kak h;obtain ⟨a,h⟩:=h;injection h with h;subst h;simp only [qp] at a;exact k3j i (g.get j) hk (g.get b) (qn a.2.1) (qh a.1) (qn a.2.2) f
    ·cases h
   ·cases h
  ·cases h
 ·cases h
theorem ksx (e:TOk P T) (p:ZOk P Z) (h:nE T Z st.eval (kaa st.heap) o=some c):NStep P o st c:=by
 unfold nE at h;split at h;rename_i a;exact k6c e a h
 ·rename_i t x a;split at h;rename_i d xs q l;exact k37 a (e.get q) l h
  ·cases h
 rename_i a;exact k43 e a h;rename_i a;exact k69 a h;rename_i a;exact k6i e a h;rename_i a;exact k54 e a h;rename_i a;exact k6e e a h;rename_i a;exact k31 e a h;rename_i a;exact k77 e p a h;rename_i a;exact k6f a h
 ·rename_i cl a;obtain ⟨callee,args,tys⟩:=cl;simp only at h;split at h;rename_i x t g m;rw [khz g,khz m] at a;exact k42 e a h;rename_i x t g m;rw [khz g,khz m] at a;exact k56 e a h;rename_i x y g;have:args=#[x,y]:=(by apply qbd;simpa using g);rw [this] at a;exact ky4 (mx:=false) a h;rename_i x y g;have:args=#[x,y]:=(by apply qbd;simpa using g);rw [this] at a;exact ky4 (mx:=true) a h
  ·cases h
 rename_i x a;injection h with h;subst h;exact kp6 (.inl a);rename_i x a;injection h with h;subst h;exact kp6 (.inr a)
 ·rename_i cc x y a;split at h;rename_i b k;injection h with h;subst h;exact kzk a k
  ·cases h
 ·rename_i op t x a;split at h
  ·rename_i u s;split at h;rename_i r hr;injection h with h;subst h;exact n_un a s hr
   ·cases h
  ·cases h
 rename_i x i a;exact kr3 a h;rename_i t parts a;exact k0c e a h;rename_i t n parts a;exact kvs e a h
 ·rename_i f first cap a
  cases k:first.isEmpty with
  | false=>
   rw [k] at h;cases j:cap.isEmpty with
   | false=>rw [j] at h;cases h
   | true=>
    rw [j] at h;have:cap=#[]:=(by simpa using j);subst this;simp only [qe,qd,qc] at h;subst h;exact k3f a
  | true=>
   rw [k] at h;have:first=#[]:=by simpa using k
   subst this;simp only [qd,qc] at h;subst h;exact k0h a
 ·cases h
theorem k3l {dl:Dl} (h:(match nE T Z st.eval (kaa st.heap) o with | some c=>some (c,Dl.no) | none=>none)=some (c,dl)) (a:TOk P T) (b:ZOk P Z):kaq P o st c (kg3 st id dl) (dIds st id dl):=by
 split at h;rename_i c' hc;simp only [qc,qm] at h;obtain ⟨rfl,rfl⟩:=h;exact (ksx a b hc).step
 ·cases h
theorem krb {i g:Nat} {cells cells':List AV} {x:AV} {dl:Dl} (a:objC st i=some (g,cells)) (h:setE (kaa st.heap) i x cells'=some (c,dl)):x=c/\kg3 st id dl=putC st i cells'/\dIds st id dl=st.ids:=by
 unfold setE at h;split at h
 ·rename_i ob d;simp only [qc,qm] at h;obtain ⟨rfl,rfl⟩:=h;unfold objC objH at a;rw [d] at a;unfold putC;rw [d];split at a;rename_i e cs b;injection b with b;subst b;exact ⟨rfl,rfl,rfl⟩;rename_i g e sz cs b;injection b with b;subst b;exact ⟨rfl,rfl,rfl⟩
  ·cases a
 ·cases h
theorem k4d (e:TOk P T) {x y:Operand} {dl:Dl} (f:o.op = .store t x y) (h:stoE T st.eval (kaa st.heap) t x y=some (c,dl)):kaq P o st c (kg3 st id dl) (dIds st id dl):=by
 unfold stoE at h;split at h
 ·rename_i d i n off j k;split at h;rename_i g cells a;replace h:=kak h;obtain ⟨b,h⟩:=h;simp only [qp] at b;obtain ⟨b1,b2,b3,b4⟩:=b;obtain rfl:=qh b1;obtain ⟨rfl,e2,e3⟩:=krb (id:=id) a h;rw [e2,e3];exact k1m f (e.get j) k a rfl (qh b2) b3 (qn b4)
  ·cases h
 ·cases h
theorem k5h (g:TOk P T) {x y:Operand} {dl:Dl} (a:st.ids.contains id=false) (i:o.op = .makeSlice t x y) (h:mksE T st.eval (kaa st.heap) t id x y=some (c,dl)):kaq P o st c (kg3 st id dl) (dIds st id dl):=by
 unfold mksE at h;split at h
 ·rename_i d j;split at h
  ·rename_i e hk;split at h
   ·rename_i de b;split at h;rename_i zv k n k' m l p hy;replace h:=kak h;obtain ⟨f,h⟩:=h;simp only [qp,qa3] at f;obtain ⟨b1,b2,b3,b4,b5,b6⟩:=f;simp only [qc,qm] at h;obtain ⟨rfl,rfl⟩:=h;exact e_mkE i g j hk b (qh b1) l b2 p hy b3 b4 b5 b6 a
    ·cases h
   ·cases h
  ·cases h
 ·cases h
theorem k5g (a:TOk P T) {mu:Bool} {n:Nat} {parts:Array (Nat×Operand)} {dl:Dl} (b:st.ids.contains id=false) (i:o.op = .buildSlice t n parts) (h:litE T st.eval (kaa st.heap) mu t n id parts=some (c,dl)):kaq P o st c (kg3 st id dl) (dIds st id dl):=by
 unfold litE at h;split at h
 ·rename_i c' hc;simp only [qc,qm] at h;obtain ⟨rfl,rfl⟩:=h;cases mu with
  | true=>cases hc
  | false=>exact (kvs a i hc).step
 ·split at h
  ·rename_i d k;split at h
   ·rename_i e hk;split at h
    ·rename_i de f;split at h;rename_i ys g;replace h:=kak h;obtain ⟨j,h⟩:=h;simp only [qp] at j;obtain ⟨b1,b2,b3⟩:=j;simp only [qc,qm] at h;obtain ⟨rfl,rfl⟩:=h;exact k7z i (a.get k) hk (a.get f) (qn b2) (qh b1) (qn b3) g b
     ·cases h
    ·cases h
   ·cases h
  ·cases h
theorem k59 (e:TOk P T) {x y v:Operand} {dl:Dl} (f:o.op = .mapUpdate t x y v) (h:mpuE T st.eval (kaa st.heap) t x y v=some (c,dl)):kaq P o st c (kg3 st id dl) (dIds st id dl):=by
 unfold mpuE at h;split at h
 ·rename_i d i k g j hy;split at h
  ·rename_i kt et hk;split at h
   ·rename_i kd kv a b;replace h:=kak h;obtain ⟨l,h⟩:=h;split at h;rename_i kv' hp;simp only [qc,qm] at h;obtain ⟨rfl,rfl⟩:=h;exact kuc f e g hk a j b hy l hp
    ·cases h
   ·cases h
  ·cases h
 ·cases h
theorem k4n (e:TOk P T) {x:Operand} {dl:Dl} (a:st.ids.contains id=false) (f:o.op = .range t x) (h:rngE T st.eval (kaa st.heap) t id x=some (c,dl)):kaq P o st c (kg3 st id dl) (dIds st id dl):=by
 unfold rngE at h;split at h
 ·rename_i d m g i;split at h;rename_i kt et kv hk b;simp only [qc,qm] at h;obtain ⟨rfl,rfl⟩:=h;exact k0v f (e.get g) hk i b a
  ·cases h
 ·cases h
theorem k5t {x:Operand} {dl:Dl} (e:o.op = .next x false) (h:nxtE st.eval (kaa st.heap) x=some (c,dl)):kaq P o st c (kg3 st id dl) (dIds st id dl):=by
 unfold nxtE at h;split at h
 ·rename_i i f;split at h
  ·rename_i m since seen stepped a;split at h
   ·rename_i kv b;replace h:=kak h;obtain ⟨d,h⟩:=h;simp only [qp] at d;obtain ⟨b1,b2⟩:=d;rw [qh b1] at a;split at h;rename_i hl;simp only [qc,qm] at h;obtain ⟨rfl,rfl⟩:=h;exact (kz6 e f a b (qn b2) hl).step
    ·rename_i j hl;split at h;rename_i p hp;replace h:=kak h;obtain ⟨d,h⟩:=h;simp only [qc,qm] at h;obtain ⟨rfl,rfl⟩:=h;exact k5o e f a b (qn b2) hl hp d
     ·cases h
    ·cases h
   ·cases h
  ·cases h
 ·cases h
theorem kuk (i:TOk P T) {x y:Operand} {e:TypeId} {de:TD} {n:Nat} {ys:List AV} {dl:Dl} (a:st.ids.contains id=false) (j:o.op = .call { callee := .builtin .append,args:=#[x,y],argTypes:=#[t,tx] }) (l:kab T t=some d) (hk:d.kind = .slice e) (b:kab T e=some de)
  (p:0<de.size) (f:de.zero.length=de.size) (hy:srcE T de.size st tx (st.eval y)=some (n,ys)) (h:appE.grow st.eval (kaa st.heap) id x e de n ys=some (c,dl)):kaq P o st c (kg3 st id dl) (dIds st id dl):=by
 unfold appE.grow at h;split at h;rename_i m k xs q;replace h:=kak h;obtain ⟨g,h⟩:=h;simp only [qp] at g;simp only [qc,qm] at h;obtain ⟨rfl,rfl⟩:=h;exact kzn j i l hk b p f q hy (by simpa [qbf] using g.1) (qn g.2) a
 ·cases h
theorem k6q (l:TOk P T) {x y:Operand} {dl:Dl} (p:st.ids.contains id=false) (q:o.op = .call { callee := .builtin .append,args:=#[x,y],argTypes:=#[t,tx] }) (h:appE T st.eval (kaa st.heap) t tx id x y=some (c,dl)):kaq P o st c (kg3 st id dl) (dIds st id dl):=by
 unfold appE at h;split at h
 ·rename_i d s;split at h
  ·rename_i e hk;split at h
   ·rename_i de b;split at h
    ·rename_i ys0 hy;split at h;rename_i r hr;obtain ⟨m,cc,xs⟩:=r;simp only [qc,qm] at h;obtain ⟨rfl,rfl⟩:=h;exact (k72 q l s hk b hr hy).step
     ·cases h
    ·rename_i n ys _ hy;replace h:=kak h;obtain ⟨u,h⟩:=h;simp only [qp] at u;have w:=qn u.1;have j:=qh u.2;split at h
     ·rename_i i g off m v;split at h;rename_i g' e' sz cells f;replace h:=kak h;obtain ⟨a,h⟩:=h;simp only [qp] at a;obtain ⟨b1,b2,b3,b4,b5,b6⟩:=a;obtain rfl:=qh b1;obtain rfl:=qh b2;obtain rfl:=qh b3;obtain rfl:=qh b4;simp only [qc,qm] at h;obtain ⟨rfl,rfl⟩:=h;exact k6a q l s hk b j v f (qh b5) hy (qn b6)
      ·cases h
     ·rename_i i g off m k v;cases hr:Nat.ble (m+n) k with
      | true=>
       rw [hr] at h;simp only [qd] at h;split at h;rename_i g' cells f;replace h:=kak h;obtain ⟨a,h⟩:=h;simp only [qp] at a;obtain rfl:=qh a.1;obtain ⟨rfl,e2,e3⟩:=krb (id:=id) f h;rw [e2,e3];exact kyq q l s hk b v f hy (qn hr) (qn a.2)
       ·cases h
      | false=>
       rw [hr] at h;exact kuk l p q s hk b w j hy h
     ·exact kuk l p q s hk b w j hy h
    ·cases h
   ·cases h
  ·cases h
 ·cases h
theorem k38 (j:TOk P T) {x y:Operand} {dl:Dl} (k:o.op = .call { callee := .builtin .copy,args:=#[x,y],argTypes:=#[t,tx] }) (h:cpyE T st.eval (kaa st.heap) t x y=some (c,dl)):kaq P o st c (kg3 st id dl) (dIds st id dl):=by
 unfold cpyE at h;split at h
 ·rename_i d l;split at h
  ·rename_i e hk;split at h
   ·rename_i de b;split at h
    ·rename_i i g off len cap n c2 ys m hy;split at h;rename_i g' cells a;replace h:=kak h;obtain ⟨f,h⟩:=h;simp only [qp] at f;obtain rfl:=qh f.1;obtain ⟨rfl,e2,e3⟩:=krb (id:=id) a h;rw [e2,e3];exact k4y k j l hk b m a hy (qn f.2)
     ·cases h
    ·cases h
   ·cases h
  ·cases h
 ·cases h
theorem sE_ok (f:TOk P T) (j:ZOk P Z) {mu:Bool} {dl:Dl} (b:st.ids.contains id=false) (h:sE T Z st.eval (kaa st.heap) mu id o=some (c,dl)):kaq P o st c (kg3 st id dl) (dIds st id dl):=by
 unfold sE at h;split at h;rename_i e x a;replace h:=kak h;obtain ⟨k,h⟩:=h;simp only [qc,qm] at h;obtain ⟨rfl,rfl⟩:=h;exact k3k a rfl k b
 ·rename_i e a;split at h
  ·rename_i d l;split at h;rename_i cells m;simp only [qc,qm] at h;obtain ⟨rfl,rfl⟩:=h;exact kq6 a (f.get l) m b
   ·cases h
  ·cases h
 rename_i a;exact k4d f a h;rename_i a;exact k5h f b a h;rename_i a;exact k5g f b a h;rename_i a;simp only [qc,qm] at h;obtain ⟨rfl,rfl⟩:=h;exact kxd a b;rename_i a;exact k59 f a h;rename_i a;exact k4n f b a h;rename_i a;exact k5t a h
 ·rename_i cl a;obtain ⟨callee,args,tys⟩:=cl;simp only at h;split at h;rename_i x y t tx g i;have e1:args=#[x,y]:=(by apply qbd;simpa using g);have e2:tys=#[t,tx]:=(by apply qbd;simpa using i);rw [e1,e2] at a;exact k6q f b a h;rename_i x y t tx g i;have e1:args=#[x,y]:=(by apply qbd;simpa using g);have e2:tys=#[t,tx]:=(by apply qbd;simpa using i);rw [e1,e2] at a;exact k38 f a h
  ·exact k3l h f j
 ·exact k3l h f j
end
end Go.Proofs.YtpnnpkmjohkgiaaGreatDoor
