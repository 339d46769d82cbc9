import Derived.Test.YtnlhjbnpjefjgabGreatDoorSim
import Derived.Test.YtnlhjbnpjefjgabGreatDoorTy
import Derived.ChangeMaps5
import Derived.Lib.AppendIntMem
import Derived.Lib.ItoaLen
import Derived.Lib.Slices
import Derived.Lib.Hide
import Derived.Laws.IdiomStrings
import Derived.OwnWalk
import Derived.WalkKit
import Derived.BigCall
import Derived.Lib.Bytealg
set_option linter.all false
set_option linter.unusedSectionVars false
namespace Go.Proofs.YtnlhjbnpjefjgabGreatDoor
open Go Go.RowKit
variable [Dr]
inductive Tm where
 | mk (rule:Int) (args:List Tm)
namespace Tm
def rule:Tm->Int | mk r _=>r
def args:Tm->List Tm | mk _ l=>l
theorem ind {P:Tm->Prop} (h:∀ r l,(∀ t∈l,P t)->P (mk r l)) (t:Tm):P t:=
 Tm.rec (motive_1:=P) (motive_2:=fun l=>∀ t∈l,P t) (fun r l ih=>h r l ih) (fun _ h=>nomatch h)
  (fun t l h1 a x b=>(qan.1 b).elim (fun e=>e ▸ h1) (a x)) t
mutual
def size:Tm->Nat
 | mk _ l=>sizeL l+1
def sizeL:List Tm->Nat
 | []=>0
 | t::l=>t.size+sizeL l
end
mutual
def pre (g:Tm->Int):Tm->List Int
 | mk r l=>g (mk r l)::preL g l
def preL (g:Tm->Int):List Tm->List Int
 | []=>[]
 | t::l=>t.pre g++preL g l
end
def nargs (t:Tm):Int:=(t.args.length:Int)
def rules (t:Tm):List Int:=t.pre rule
def arities (t:Tm):List Int:=t.pre nargs
theorem sizeL_snoc (l:List Tm) (t:Tm):sizeL (l++[t])=sizeL l+t.size:=by
 induction l with
 | nil=>simp [sizeL]
 | cons x l ih=>simp only [qbo,sizeL,ih];omega
theorem size_pos (t:Tm):1<=t.size:=by cases t;simp [size]
theorem sizeL_mem {l:List Tm} {t:Tm} (h:t∈l):t.size<=sizeL l:=by
 induction l with
 | nil=>cases h
 | cons x l ih=>
  simp only [sizeL];rcases qan.1 h with rfl | h;omega
  ·have:=ih h;omega
theorem pre_length (g:Tm->Int) (t:Tm):(t.pre g).length=t.size:=by
 induction t using Tm.ind with
 | h r l ih=>
  simp only [pre,size,qbp];have:∀ m:List Tm,(∀ t∈m,(t.pre g).length=t.size)->(preL g m).length=sizeL m:=fun m=>by
   induction m with
   | nil=>simp [preL,sizeL]
   | cons x m ihm=>
    intro h;simp only [preL,sizeL,qaf];rw [h x (by simp),ihm fun t ht=>h t (by simp [ht])]
  rw [this l ih]
theorem rules_length (t:Tm):t.rules.length=t.size:=pre_length _ t
theorem arities_length (t:Tm):t.arities.length=t.size:=pre_length _ t
end Tm
variable {S S':Nat->Prop} {w w':World}
inductive k9b (S:Nat->Prop) (w:World):List Value->Tm->Prop where
 | mk (r:Int) (kids:List Tm) (A:Option Addr) (cap:Nat) (css:Nat->List Value) (hr:kio r) (hc:kids.length<=cap) (hm:cap<=9223372036854775807)
  (hA:∀ (i:Nat) (x:Tm),kids[i]?=some x->∃ b o,A=some ⟨b,o,none⟩/\S b/\At w b (o+i*2) (css i))
  (hk:∀ (i:Nat) (x:Tm),kids[i]?=some x->k9b S w (css i) x):k9b S w [.int .i64 r, .slice A kids.length cap] (.mk r kids)
end Go.Proofs.YtnlhjbnpjefjgabGreatDoor
set_option linter.all false
set_option linter.unusedSectionVars false
namespace Go.Proofs.YtnlhjbnpjefjgabGreatDoor
open Go Go.RowKit
variable [Dr]
inductive Va where
 | mk (type num:Int) (text:BA) (items:List Va)
namespace Va
def type:Va->Int | mk t _ _ _=>t
def num:Va->Int | mk _ n _ _=>n
def text:Va->BA | mk _ _ s _=>s
def items:Va->List Va | mk _ _ _ l=>l
end Va
structure Sy where
 name:BA
 type:Int
structure Ru where
 symbol:Int
 kind:Int
 input:Int
 const:Va
 op:BA
 args:List Int
structure La where
 name:BA
 inputs:List Int
 symbols:List Sy
 rules:List Ru
def Short (s:BA):Prop:=s.size<=9223372036854775807
section
variable {S S':Nat->Prop} {w w':World}
inductive k9p (S:Nat->Prop) (w:World):List Value->Va->Prop where
 | mk (t n:Int) (s:BA) (kids:List Va) (A:Option Addr) (cap:Nat) (css:Nat->List Value) (ht:kio t) (hn:kio n) (hs:Short s) (hc:kids.length<=cap) (hm:cap<=9223372036854775807)
  (hA:∀ (i:Nat) (x:Va),kids[i]?=some x->∃ b o,A=some ⟨b,o,none⟩/\S b/\At w b (o+i*4) (css i))
  (hk:∀ (i:Nat) (x:Va),kids[i]?=some x->k9p S w (css i) x):k9p S w [.int .i64 t, .int .i64 n, .string s, .slice A kids.length cap] (.mk t n s kids)
section
variable {T:Type} {size:Nat} {R:(Nat->Prop)->World->List Value->T->Prop} {v:Value} {l:List T}
theorem RepSl.shape {Q:List Value->T->Prop} (h:RepSl S w size Q v l):∃ A cap,v = .slice A l.length cap/\l.length<=cap/\cap<=9223372036854775807:=let ⟨A,cap,hv,h1,a,_⟩:=h;⟨A,cap,hv,h1,a⟩
theorem RepSl.get {Q:List Value->T->Prop} {A:Option Addr} {n cap:Nat} (h:RepSl S w size Q (.slice A n cap) l) {k:Nat} (hk:k<l.length):
  ∃ b o cs,A=some ⟨b,o,none⟩/\S b/\At w b (o+k*size) cs/\cs.length=size/\Q cs l[k]:=by
 obtain ⟨A0,cap0,hv,_,_,a⟩:=h;injection hv with h1 c d;subst h1;exact a k _ (qa hk)
end
end
end Go.Proofs.YtnlhjbnpjefjgabGreatDoor
set_option linter.all false
set_option linter.unusedSectionVars false
namespace Go.Proofs.YtnlhjbnpjefjgabGreatDoor
open Go Go.RowKit
variable [Dr]
mutual
def eVaR:Va->FV
 | .mk t n s l => .agg [eI t,eI n,eS s, .lst 4 l.length (kv7 l)]
def kv7:List Va->List FV
 | []=>[]
 | x::l=>eVaR x::kv7 l
end
def eVa (x:Va):FV := .agg [eI x.type,eI x.num,eS x.text,eL 4 eVaR x.items]
theorem k0f:∀ l:List Va,kv7 l=l.map eVaR
 | []=>by simp [kv7]
 | x::l=>by simp [kv7,k0f l]
theorem k3b (x:Va):eVaR x=eVa x:=by cases x;simp [eVaR,eVa,k0f,eL,Va.type,Va.num,Va.text,Va.items]
theorem k41 (x:Va):(eVaR x).cells=(eVa x).cells:=by rw [k3b]
theorem k7h (x:Va):(eVaR x).cells.length=4:=by rw [k3b];rfl
mutual
def eTmR:Tm->FV
 | .mk r l => .agg [eI r, .lst 2 l.length (kwo l)]
def kwo:List Tm->List FV
 | []=>[]
 | x::l=>eTmR x::kwo l
end
def eTm (x:Tm):FV := .agg [eI x.rule,eL 2 eTmR x.args]
theorem kz5:∀ l:List Tm,kwo l=l.map eTmR
 | []=>by simp [kwo]
 | x::l=>by simp [kwo,kz5 l]
theorem kt6 (x:Tm):eTmR x=eTm x:=by cases x;simp [eTmR,eTm,kz5,eL,Tm.rule,Tm.args]
theorem knf (x:Tm):(eTmR x).cells=(eTm x).cells:=by rw [kt6]
theorem k70 (x:Tm):(eTmR x).cells.length=2:=by rw [kt6];rfl
def eSy (x:Sy):FV := .agg [eS x.name,eI x.type]
def eRu (x:Ru):FV := .agg [eI x.symbol,eI x.kind,eI x.input,eI x.const.type,eI x.const.num,eS x.const.text,eL 4 eVaR x.const.items,eS x.op,eL 1 eI x.args]
def eLa (x:La):FV := .agg [eS x.name,eL 1 eI x.inputs,eL 2 eSy x.symbols,eL 9 eRu x.rules]
end Go.Proofs.YtnlhjbnpjefjgabGreatDoor
set_option linter.all false
namespace Go.Proofs.YtnlhjbnpjefjgabGreatDoor
open Go Go.RowKit Go.ChangeShapes Go.WideShapes Go.ChangeAt Go.ChangeMaps
section
variable {T:Type} {P:Program} {H:Type} {enc:TypeId×Value->H} {w:World} {base:Nat} {spare:Nat->Bool} {held:Bool}
theorem kab3 {n:Int} (h:(Lit.int .i64 n).wf=true):kio n:=by simpa [Lit.wf,IntKind.min,IntKind.max,IntKind.signed,IntKind.bits,kio] using h
theorem kacq {r:Reach} {b0:Nat} {t:TypeId} {v:Value} {d:DataW H} {p:List MemPlace} (ht:P.underlying t=some (.int .i64)) (hv:Value.okWide P w r b0 t v) (h:DataW.Trod enc P w base spare held t v d p):∃ n,RF Any w v (eI n)/\kio n:=by obtain ⟨n,rfl,_,_,a⟩:=open_int ht hv h;exact ⟨n, .atom rfl,kab3 a⟩
end
def keyL (r:Int) (xs:List Int):List UInt8:=Lib.itoa r++xs.flatMap fun a=>32::Lib.itoa a
theorem k7b {r:Int} (r0 : -9223372036854775808<=r) (r1:r<=9223372036854775807):∀ {xs:List Int},(∀ x∈xs,kio x)->(keyL r xs).length<=21+22*xs.length:=by
 intro xs h;have hr:=Lib.itoa_length_le r r0 r1;have:∀ l:List Int,(∀ x∈l,kio x)->(l.flatMap fun a=>(32:UInt8)::Lib.itoa a).length<=22*l.length:=by
  intro l
  induction l with
  | nil=>intro _;simp
  | cons a l ih=>
   intro h;have ha:=h a (qn ..);have h1:=Lib.itoa_length_le a ha.1 ha.2;have b:=ih fun x c=>h x (qe _ c);simp only [qbk,qaf,qbp] at b ⊢;omega
 have:=this xs h;simp only [keyL,qaf];omega
theorem k5t (r:Int) {xs:List Int} {k:Nat} (hk:k<xs.length):keyL r (xs.take (k+1))=keyL r (xs.take k)++32::Lib.itoa xs[k]:=by simp only [keyL,qay hk,List.flatMap_append,qbk,List.flatMap_nil,List.append_nil,qa0]
theorem k16 (u:Nat):0<(Lib.decDigits u).length:=by rw [Lib.decDigits];split <;> simp
theorem kabf (n:Int):0<(Lib.itoa n).length:=by
 unfold Lib.itoa;split;simp
 ·exact k16 _
theorem k7v:(Tryz.prog.info? 5).map (fun i=>(i.zero,i.size,i.bytes))=some (some (.int .u8 0),1,1):=by kernel_rfl
theorem k94 {S:Nat->Prop} {w:World} {v:Value} {xs:List Int} (h:Ints S w v xs):∀ x∈xs,kio x:=fun x a=>by obtain ⟨k,hk,rfl⟩:=List.getElem_of_mem a;obtain ⟨A,cap,rfl,_,_⟩:=RepSl.shape h;obtain ⟨b,o,cs,_,_,_,_,h1⟩:=RepSl.get h hk;exact h1.2
set_option maxHeartbeats 6400000 in
set_option maxRecDepth 100000 in
theorem kaa0 (r : Int) (xs : List Int) (sv : Value) (w : World) (hs : Ints Any w sv xs) (r0 : -9223372036854775808 <= r) (r1 : r <= 9223372036854775807) (hn : xs.length <= 1000000) (htab : Lib.TabIs Tryz.prog w "internal/strconv.uint64pow10" .u64 Lib.pow10Tab) :
  Calls Tryz.prog 123 #[.int .i64 r,sv] w fun e w'=>e = .returned (.string ⟨(keyL r xs).toArray⟩)/\RowKit.Below w.heap.size w w':=by
 obtain ⟨i0,hi,hz0,hz1,hz2⟩:=info_parts k7v;have HT:=Lib.hid (Lib.tabBelow_of_tabIs htab);have HX:=Lib.hid (k94 hs);have HS:=Lib.hid ((Ints.bound hs).mono (S':=Lt w.heap.size) fun b hb=>hb.2);obtain ⟨A,cap,rfl,hc1,hc2⟩:=RepSl.shape hs;clear hs htab
 go_enter Tryz.func123,Tryz.ntmps123
 go_wp2_with (go_at_call 166;refine (kjd w.heap.size 0 r r0 r1 (.slice none 0 0) [] w (World.ownsRow_nil _ _ _ _) (qu _) HT.out).mono ?_;rintro e w1 ⟨v1,rfl,hown1,hnx1,-⟩;refine Hid.out ?_)
 refine Lib.hid ?_;rw [Nat.zero_add,List.nil_append] at hown1;have HO1:=Lib.hid hown1;have HN1:=Lib.hid hnx1;clear hown1 hnx1
 go_wp2_with fail
 go_loopw [5,12] (fun v i wr=>∃ k:Nat,k<=xs.length/\i = .int .i64 k/\Hid (wr.ownsRow w.heap.size 5 1 v (keyL r (xs.take k)).length (Lib.byteCells (keyL r (xs.take k))))/\Hid (RowKit.Below w.heap.size w wr)) (fun _ i _=>xs.length - (intOf i).toNat)
 case atStart=>exact ⟨0,by omega,by simp,Lib.hid (by simpa [keyL] using HO1.out),Lib.hid HN1.out⟩
 case round=>
  obtain ⟨k,hk,rfl,HO,HB⟩:=hrel;have hz:w.heap.size<=wr.heap.size:=HB.out.size;by_cases hlt:k<xs.length
  ·obtain ⟨A',cap',hv,_,_,hg⟩:=Ints.form (HS.out.keep (Same.of_below (Below.kit rfl HB.out) fun b hb=>hb));injection hv with hv1 hv2 hv3;subst hv1 hv3;obtain ⟨⟨x0,x1⟩,b,o,rfl,hbl,hcell⟩:=hg k hlt;have HL:=Lib.hid (k7b r0 r1 (xs:=xs.take k) fun x hx=>HX.out x (qa6 hx));have HK:=Lib.hid (k5t r hlt);clear hg hv2;have hlen:(keyL r (xs.take k)).length<=22000021:=by have:=HL.out;rw [qak] at this;omega
   go_wp2_with (at_builtin;refine wpList_append_own _ rfl _ _ 206 rfl w.heap.size 5 i0 (.int .u8 0) 1 1 Tryz.underlying206 hi hz0 hz1 hz2 rfl (by decide) _ _ _ rfl (HO.out.alloc _) ⟨wr.heap.size,0,none⟩ 1 1 [Value.int .u8 32] rfl rfl (by intro j u' hj;match j,hj with | 0,hj=>simp at hj;subst hj;simp [Addr.add]) (by intro u' hu'; simp at hu'; subst hu'; rfl) (by unfold maxLen;omega) (by omega) (by simp;omega) ?_)
   intro v2 w2 hown2 hgrow _;have HN2:=Lib.hid ((HB.out.alloc hz _).grown hgrow (by simp;omega) (fun k hk=>(HO.out.lt k hk).1));have HO2:=Lib.hid hown2;clear hown2 hgrow
   go_wp2_with (go_at_call 166;refine (kjd w.heap.size _ _ x0 x1 v2 _ w2 HO2.out (by have:=HN2.out.size;omega) (HT.out.on HN2.out)).mono ?_;rintro e w3 ⟨v3,rfl,hown3,hnx3,-⟩;refine Hid.out ?_)
   refine Lib.hid ?_;have HO3:=Lib.hid hown3;have HN3:=Lib.hid hnx3;clear hown3 hnx3
   go_wp2_with fail
   go_roundw
   case rel=>
    refine ⟨k+1,by omega,by go_num,Lib.hid ?_,Lib.hid (HN2.out.trans HN3.out)⟩;have h:=HO3.out;have e1:Lib.byteCells (keyL r (xs.take k))++[Value.int .u8 32]++Lib.byteCells (Lib.itoa xs[k])=Lib.byteCells (keyL r (xs.take (k+1))):=(by rw [HK.out];simp [Lib.byteCells]);have e2:(keyL r (xs.take k)).length+1+(Lib.itoa xs[k]).length=(keyL r (xs.take (k+1))).length:=(by rw [HK.out];simp;omega);rw [e1,e2] at h;exact h
   case measure=>simp [intOf];omega
  ·have h0:k=xs.length:=(by omega);subst h0;have HO':=HO.out;rw [List.take_length] at HO';obtain ⟨l,hl⟩:∃ l,l=keyL r xs:=⟨_,rfl⟩;rw [<- hl] at HO';have HL:=Lib.hid hl;clear hl HO;have HO:=Lib.hid HO';clear HO';have hpos:0<l.length:=(by rw [HL.out,keyL,qaf];have:=kabf r;omega);rcases HO.out.2 with ⟨-,h0⟩ | ⟨g,cap,cur,rfl,-,-,-,-,-,-⟩;omega
   ·have hcv:=run_convert_bytes_back (P:=Tryz.prog) wr 206 9 5 ⟨g,0,none⟩ cap l Tryz.underlying206 Tryz.underlying5 Tryz.underlying9 (fun j hj=>HO.out.cells (g:=g) rfl j _ (by simp [Lib.byteCells,hj]))
    go_wp2
    go_ret
    have hl:=HL.out;subst hl;exact ⟨rfl,HB.out⟩
def dval (l:List UInt8):Nat:=l.foldl (fun a c=>a*10+(c.toNat - 48)) 0
theorem kwe {d:Nat} (h:d<10):(UInt8.ofNat (48+d)).toNat=48+d:=by simp only [UInt8.toNat_ofNat'];omega
theorem k0h (u:Nat):dval (Lib.decDigits u)=u:=by
 induction u using Nat.strongRecOn with
 | _ u ih=>
  rw [Lib.decDigits];split;rename_i h;simp only [dval,List.foldl_cons,List.foldl_nil,kwe h];omega
  ·rename_i h;have:=ih (u / 10) (by omega);simp only [dval,List.foldl_append,List.foldl_cons,List.foldl_nil,kwe (Nat.mod_lt u (by omega:0<10))] at this ⊢;rw [this];omega
theorem ksl (u:Nat):∀ c∈Lib.decDigits u,48<=c.toNat/\c.toNat<=57:=by
 induction u using Nat.strongRecOn with
 | _ u ih=>
  rw [Lib.decDigits];split;rename_i h;intro c hc;obtain rfl:=qaa.1 hc;rw [kwe h];omega
  ·rename_i h;intro c hc;rcases qab.1 hc with hc | hc;exact ih (u / 10) (by omega) c hc
   ·obtain rfl:=qaa.1 hc;have:=Nat.mod_lt u (by omega:0<10);rw [kwe this];omega
theorem k21 {u v:Nat} (h:Lib.decDigits u=Lib.decDigits v):u=v:=by rw [<- k0h u,h,k0h]
theorem kud (n:Int):∀ c∈Lib.itoa n,c≠32:=by
 intro c hc e;subst e;unfold Lib.itoa at hc;split at hc
 ·rcases qan.1 hc with h | h;cases h
  ·have:=ksl _ _ h;revert this;decide
 ·have:=ksl _ _ hc;revert this;decide
theorem k14 {m n:Int} (h:Lib.itoa m=Lib.itoa n):m=n:=by
 have a:∀ (u v:Nat),(45:UInt8)::Lib.decDigits u≠Lib.decDigits v:=fun u v h=>by
  have:=ksl v 45 (by rw [<- h];exact qn ..)
  revert this;decide
 unfold Lib.itoa at h;split at h <;> split at h;have:=k21 (List.cons.inj h).2;omega;exact absurd h (a _ _);exact absurd h.symm (a _ _)
 ·have:=k21 h;omega
theorem kxz:∀ {a a' b b':List UInt8},(∀ c∈a,c≠32)->(∀ c∈a',c≠32)->(b=[]\/∃ t,b=32::t)->(b'=[]\/∃ t,b'=32::t)->a++b=a'++b'->a=a'/\b=b'
 | [],[],b,b',_,_,_,_,h=>⟨rfl,h⟩
 | [],c::a',b,b',_,d,e,_,h=>by
  rcases e with rfl | ⟨t,rfl⟩;cases h
  ·exact absurd (List.cons.inj h).1.symm (d c (qn ..))
 | c::a,[],b,b',h1,_,_,f,h=>by
  rcases f with rfl | ⟨t,rfl⟩;cases h
  ·exact absurd (List.cons.inj h).1 (h1 c (qn ..))
 | c::a,c'::a',b,b',h1,d,e,f,h=>by obtain ⟨e1,e2⟩:=List.cons.inj h;obtain ⟨e3,e4⟩:=kxz (fun x g=>h1 x (qe _ g)) (fun x g=>d x (qe _ g)) e f e2;exact ⟨by rw [e1,e3],e4⟩
theorem kuc:∀ xs:List Int,(xs.flatMap fun a=>(32:UInt8)::Lib.itoa a)=[]\/∃ t,(xs.flatMap fun a=>(32:UInt8)::Lib.itoa a)=32::t
 | [] => .inl rfl
 | a::l => .inr ⟨_,rfl⟩
theorem kz8:∀ {xs ys:List Int},(xs.flatMap fun a=>(32:UInt8)::Lib.itoa a)=(ys.flatMap fun a=>(32:UInt8)::Lib.itoa a)->xs=ys
 | [],[],_=>rfl
 | [],_::_,h=>by cases h
 | _::_,[],h=>by cases h
 | x::xs,y::ys,h=>by simp only [qbk,qbo,List.cons.injEq,true_and] at h;obtain ⟨h1,b⟩:=kxz (kud x) (kud y) (kuc xs) (kuc ys) h;rw [k14 h1,kz8 b]
theorem k64 {r r':Int} {xs ys:List Int} (h:keyL r xs=keyL r' ys):r=r'/\xs=ys:=by obtain ⟨h1,a⟩:=kxz (kud r) (kud r') (kuc xs) (kuc ys) h;exact ⟨k14 h1,kz8 a⟩
variable [Dr]
def iand (k:IntKind) (a b:Int):Int:=k.wrap (BitVec.ofInt k.bits a &&& BitVec.ofInt k.bits b).toNat
def ior (k:IntKind) (a b:Int):Int:=k.wrap (BitVec.ofInt k.bits a ||| BitVec.ofInt k.bits b).toNat
def imin (a b:Int):Int:=if b<a then b else a
def imax (a b:Int):Int:=if a<b then b else a
def quo (k:IntKind) (a b:Int):Option Int:=if b=0 then none else some (k.wrap (a.tdiv b))
def rem (k:IntKind) (a b:Int):Option Int:=if b=0 then none else some (a.tmod b)
def cutS (s:BA) (lo hi:Int):Option BA:=if 0<=lo/\lo<=hi/\hi<=(s.size:Int) then some (s.extract lo.toNat hi.toNat) else none
def cutL {α:Type} (xs:List α) (lo hi:Int):Option (List α):=if 0<=lo/\lo<=hi/\hi<=(xs.length:Int) then some ((xs.take hi.toNat).drop lo.toNat) else none
variable {P:Program} {F S0:Nat->Prop} {N0:Nat} {w w':World} {S S':Nat->Prop} {ψ:Env} {K:Nat->Prop} {T:List (TypeId×TD)} {o:Oper} {a:Act} {st:St} {t:TypeId} {d:TD}
theorem k9d {x y:Operand} {ts:Array TypeId} {k k':IntKind} {m n:Int} (ho:o.op = .call { callee := .builtin .min,args:=#[x,y],argTypes:=ts }) (c:st.eval x = .fz (.atom (.int k m))) (hy:st.eval y = .fz (.atom (.int k' n))):NStep P o st (.fz (.atom (.int k (imin m n)))):=by intro ψ S a w ht _;have h1:=Sim.eval_tmps ht x;rw [c] at h1;have b:=Sim.eval_tmps ht y;rw [hy] at b;refine kad w (.int k (imin m n)) ?_ ⟨kaf _, .fz (.atom rfl)⟩;simp [execOp,ho,resolve,invoke,builtin,h1.atom,b.atom,Builtin.min_,Builtin.min2,imin]
theorem k9h {x y:Operand} {ts:Array TypeId} {k k':IntKind} {m n:Int} (ho:o.op = .call { callee := .builtin .max,args:=#[x,y],argTypes:=ts }) (c:st.eval x = .fz (.atom (.int k m))) (hy:st.eval y = .fz (.atom (.int k' n))):NStep P o st (.fz (.atom (.int k (imax m n)))):=by intro ψ S a w ht _;have h1:=Sim.eval_tmps ht x;rw [c] at h1;have b:=Sim.eval_tmps ht y;rw [hy] at b;refine kad w (.int k (imax m n)) ?_ ⟨kaf _, .fz (.atom rfl)⟩;simp [execOp,ho,resolve,invoke,builtin,h1.atom,b.atom,Builtin.max_,Builtin.max2,imax]
theorem k9k (x y:Operand) (yt:TypeId) (k:IntKind) (m n:Int) {r:Int} (h:quo k m n=some r) (ho:o.op = .binOp .quo t x y yt:=by kernel_rfl) (a:st.eval x = .fz (.atom (.int k m)):=by kernel_rfl) (hy:st.eval y = .fz (.atom (.int k n)):=by kernel_rfl):NStep P o st (.fz (.atom (.int k r))):=by
 unfold quo at h;split at h;cases h
 ·rename_i b;injection h with h;subst h;exact k49 false (fun h=>nomatch h) ho a hy (by simp [binV,intV,b])
def klc (st:St):Option Operand->Option (Option Int)
 | none=>some none
 | some x=>match st.eval x with
  | .fz (.atom (.int _ n))=>some (some n)
  | _=>none
theorem kik {ids:List Nat} (ht:∀ t,RV ψ (·∈ids) S w (a.tmps.getD t undef) (st.get t)) {x:Option Operand} {r:Option Int} (h:klc st x=some r):(x=none/\r=none)\/∃ y k n,x=some y/\r=some n/\a.eval y = .int k n:=by
 unfold klc at h;split at h;injection h with h;exact .inl ⟨rfl,h.symm⟩
 ·rename_i y;split at h;rename_i k n hk;injection h with h;have h1:=Sim.eval_tmps ht y;rw [hk] at h1;exact .inr ⟨y,k,n,rfl,h.symm,h1.atom⟩
  ·cases h
theorem k5x (x:Operand) (lo hi:Option Operand) (l h:Option Int) (s:BA) {r:BA} (hc:cutS s (l.getD 0) (h.getD s.size)=some r) (e:TOk P T) (ho:o.op = .slice t x lo hi none:=by kernel_rfl) (f:kac T t=some d:=by kernel_rfl) (hk:d.kind = .str:=by kernel_rfl) (g:st.eval x = .fz (.atom (.string s)):=by kernel_rfl) (hl:klc st lo=some l:=by kernel_rfl) (i:klc st hi=some h:=by kernel_rfl):
  NStep P o st (.fz (.atom (.string r))):=by
 intro ψ S a w ht m;have h1:=Sim.eval_tmps ht x;rw [g] at h1;have bl:=kik ht hl;have bh:=kik ht i;unfold cutS at hc;split at hc
 ·rename_i b;injection hc with hc;subst hc;refine kad w (.string (s.extract (l.getD 0).toNat (h.getD s.size).toNat)) ?_ ⟨kaf _, .fz (.atom rfl)⟩;have hu:=(e.get f).str hk;have e1:(Instr.sliceBounds false s.size s.size (lo.map a.eval) (hi.map a.eval) none).run P w = .ok ((l.getD 0).toNat,(h.getD s.size).toNat,s.size) w:=by
   unfold Instr.sliceBounds;rcases bh with ⟨rfl,rfl⟩ | ⟨y,k,n,rfl,rfl,hy⟩
   ·rcases bl with ⟨rfl,rfl⟩ | ⟨y',k',n',rfl,rfl,c⟩;simp
    ·simp only [qa9,Option.getD_none] at b ⊢;simp [Instr.sliceBound,c,asIntOf,b.1,b.2.1]
   ·rcases bl with ⟨rfl,rfl⟩ | ⟨y',k',n',rfl,rfl,c⟩;simp only [qa9,Option.getD_none] at b ⊢;simp [Instr.sliceBound,hy,asIntOf,b.2.1,b.2.2]
    ·simp only [qa9] at b ⊢;have:0<=n:=(by omega);have j:n'<=(n.toNat:Int):=(by omega);simp [Instr.sliceBound,hy,c,asIntOf,b.1,b.2.2,this,j];intro hc;exfalso;omega
  simp [execOp,ho,Instr.sliceAt,Instr.slice,run_underlying hu,h1.atom,e1]
 ·cases hc
theorem RF.take {v:Value} {size n k:Nat} {A:Option Addr} {cap:Nat} {xs:List FV} (h:RF S w (.slice A n cap) (.lst size n xs)) (lo hi:Nat) (h1:lo<=hi) (f:hi<=n):∃ A',A'=(if cap=lo then A else A.map (·.add (lo*size)))/\RF S w (.slice A' (hi - lo) (cap - lo)) (.lst size (hi - lo) ((xs.take hi).drop lo)):=by
 obtain ⟨A0,cap0,css,hv,hn,hc,hm,hs,ha,hl,hr⟩:=h.lst_inv;injection hv with e1 _ e3;subst e1 e3;have c:(xs.take hi).length=hi:=by rw [qak];omega
 have get:∀ (i:Nat) (x:FV),((xs.take hi).drop lo)[i]?=some x->xs[lo+i]?=some x:=fun i x a=>by
  rw [qae,qv] at a;split at a;exact a
  ·cases a
 refine ⟨_,rfl, .lst (fun i=>css (lo+i)) (by rw [qaw,c]) (by omega) (by omega) hs (fun i x a=>?_) (fun i x a=>hl _ x (get i x a)) fun i x j v y a hv hy=>hr _ x j v y (get i x a) hv hy⟩;obtain ⟨b,o,hA,hS,d⟩:=ha _ x (get i x a);have e:=(qd.1 (get i x a)).1;refine ⟨b,o+lo*size,?_,hS,by rw [Nat.add_assoc,<- qbd];exact d⟩;rw [qq (by omega),hA];simp only [qai,ka3]
theorem kz7 (d:TD) {α:Type} (enc:α->FV) (x:Operand) (lo hi:Option Operand) (l h:Option Int) (xs:List α) {r:List α} (size:Nat) (e:TypeId) (de:TD) (hc:cutL xs (l.getD 0) (h.getD xs.length)=some r) (p:TOk P T) (ho:o.op = .slice t x lo hi none:=by kernel_rfl) (s:kac T t=some d:=by kernel_rfl) (hk:d.kind = .slice e:=by kernel_rfl) (f:kac T e=some de:=by kernel_rfl) (g:de.size=size:=by kernel_rfl) (u:st.eval x = .fz (eL size enc xs):=by kernel_rfl) (hl:klc st lo=some l:=by kernel_rfl) (z:klc st hi=some h:=by kernel_rfl):NStep P o st (.fz (eL size enc r)):=by
 intro ψ S a w ht F;have h1:=Sim.eval_tmps ht x;rw [u] at h1;have bl:=kik ht hl;have bh:=kik ht z;unfold cutL at hc;split at hc
 ·rename_i b;injection hc with hc;subst hc;have h1:=h1.inv;obtain ⟨A,cap,css,hv,hn,B,hm,hs,ha,C,hr⟩:=h1.lst_inv;rw [hv] at h1;obtain ⟨A',i,j⟩:=h1.take (v := .nilFunc) (k:=0) (l.getD 0).toNat (h.getD xs.length).toNat (by omega) (by omega);refine kad w (.slice A' ((h.getD xs.length).toNat - (l.getD 0).toNat) (cap - (l.getD 0).toNat)) ?_ ⟨kaf _,(RV.fz ?_).here⟩
  ·have hu:=(p.get s).slice hk;have e1:(Instr.sliceBounds true xs.length cap (lo.map a.eval) (hi.map a.eval) none).run P w = .ok ((l.getD 0).toNat,(h.getD xs.length).toNat,cap) w:=by
    unfold Instr.sliceBounds;have q:(xs.length:Int)<=(cap:Int):=(by omega);rcases bh with ⟨rfl,rfl⟩ | ⟨y,k,n,rfl,rfl,hy⟩
    ·rcases bl with ⟨rfl,rfl⟩ | ⟨y',k',n',rfl,rfl,c⟩;simp
     ·simp only [qa9,Option.getD_none] at b ⊢;simp [Instr.sliceBound,c,asIntOf,b.1,b.2.1]
    ·rcases bl with ⟨rfl,rfl⟩ | ⟨y',k',n',rfl,rfl,c⟩;simp only [qa9,Option.getD_none] at b ⊢;have:n<=(cap:Int):=(by omega);simp [Instr.sliceBound,hy,asIntOf,b.2.1,this]
     ·simp only [qa9] at b ⊢;have:0<=n:=(by omega);have D:n'<=(n.toNat:Int):=(by omega);have E:n<=(cap:Int):=(by omega);simp [Instr.sliceBound,hy,c,asIntOf,b.1,this,D,E];intro hc;exfalso;omega
   have m:(sizeOf e).run P w = .ok size w:=(by rw [(p.get f).size,g]);simp [execOp,ho,Instr.sliceAt,Instr.slice,run_underlying hu,hv,e1,m,i]
  ·have:((xs.take (h.getD xs.length).toNat).drop (l.getD 0).toNat).length=(h.getD xs.length).toNat - (l.getD 0).toNat:=(by rw [qaw,qak];omega);unfold eL;rw [this,List.map_drop,List.map_take];exact j
 ·cases hc
def zipS:List (Nat×AV)->List AV->List (Nat×AV)
 | (t,_)::l,v::vs=>(t,v)::zipS l vs
 | _,_=>[]
theorem kvl {v:Nat->Value} {K:Nat->Prop}:∀ {l:List (Nat×AV)} {vs:List AV} (t:Nat),(∀ (i:Nat) (k:Nat×AV) (x:AV),l[i]?=some k->vs[i]?=some x->RV ψ K S w (v k.1) x)->RV ψ K S w (v t) (look .any (zipS l vs) t)
 | [],vs,t,h=>by cases vs <;> exact .any
 | (k,y)::l,[],t,h => .any
 | (k,y)::l,x::vs,t,h=>by
  simp only [zipS,kar];split;rename_i hk;subst hk;exact h 0 _ x rfl rfl
  ·exact kvl t fun i k x hk a=>h (i+1) k x (by simpa using hk) (by simpa using a)
def argT:Nat->List AV->List (Nat×AV)
 | _,[]=>[]
 | i,x::l=>(i,x)::argT (i+1) l
theorem kkb:∀ (l:List AV) (i t:Nat),look .any (argT i l) t = .any\/∃ x,i<=t/\l[t - i]?=some x/\look .any (argT i l) t=x
 | [],i,t => .inl rfl
 | x::l,i,t=>by
  simp only [argT,kar];by_cases h:i=t;subst h;exact .inr ⟨x,qu _,by simp,by simp⟩
  ·rw [qq h];rcases kkb l (i+1) t with h1 | ⟨y,h1,a,b⟩;exact .inl h1
   ·exact .inr ⟨y,by omega,by rw [show t - i=(t - (i+1))+1 by omega];simpa using a,b⟩
def inlQ (P:Program) (ops:Array Oper) (l:List Oper) (dst:Option Nat) (n:Nat) (D:List Deferred) (g:Nat) (cs:List Value) (keep:List (Nat×AV)) (rs:List ResultVar) (Q:Exit->St->Prop):Exit->St->Prop:=fun e st'=>
 (e = .normal\/e = .ret)/\st'.dfr=[]/\∃ vs r,kaa st'.heap g=some (.gho cs vs)/\((rs=[]/\r = .any)\/∃ z,rs=[.tmp z]/\st'.get z=r) /\
  awpL P ops l (({ n:=n,tmps:=zipS keep vs,heap:=kbd g st'.heap,ids:=st'.ids,dfr:=D }:St).put dst r) Q
theorem k8d {f:FuncId} {fn:Func} {c:Code} {ops:Array Oper} {l:List Oper} {Q:Exit->St->Prop} {x:Operand} {args:Array Operand} {ts:Array TypeId} {cap:List AV} {n g:Nat} {as_:List AV} (ho:o.op = .call { callee := .value x,args:=args,argTypes:=ts })
  (G : st.eval x = .fn f cap) (hg : ka0 ops st o = some true) (hd : ∀ t, o.dst = some t -> t < st.n) (hf : P.funcs[f]? = some fn) (T : fn.body = some c) (hn : (fn.name == "runtime.NumGoroutine") = false) (U : fn.ntmps = n) (H : args.toList.map st.eval ++ cap = as_) (I : Nat.ble as_.length n = true) (j : st.ids.contains g = false)
  (h:∀ cs,awp P c { n:=n,tmps:=argT 0 as_,heap:=(g, .gho cs (st.tmps.map fun p=>st.get p.1))::st.heap,ids:=g::st.ids } (inlQ P ops l o.dst st.n st.dfr g cs st.tmps fn.results.toList Q)):
  awpL P ops (o::l) st Q:=by
 have I:=qi I;have j:g∉st.ids:=by simpa using j
 intro F S0 N0 ψ S a w hs;unfold wpList;rw [kcj hs hg];refine .inl ?_;have A:=hs.eval x;rw [G] at A;obtain ⟨caps,hcx,V,X⟩:∃ caps:Array Value,a.eval x = .func (.func f) #[] caps/\caps.size=cap.length/\∀ (i:Nat) (v:Value) (y:AV),caps[i]?=some v->cap[i]?=some y->RV ψ (·∈st.ids) S w v y:=by
  generalize a.eval x=u at A;cases A with
  | fn h hr=>exact ⟨_,rfl,h,hr⟩
 have Y:fn.body≠none:=by rw [T];simp
 simp only [beq_eq_false_iff_ne,ne_eq] at hn;have J:(execOp a.eval o).run P w = .ok (.enter f (args.map a.eval++caps)) w:=by simp [execOp,ho,resolve,hcx,Deferred.ofValue,invoke,callFunc,hf,Y,hn]
 unfold Oper.wp;rw [J];show Calls P f (args.map a.eval++caps) w _;refine calls_of_wp hf T ?_
 -- the values of the caller's frame
 have B:=hs.core.add (n:=0) (v := .nilFunc) (w':=w) (ob := .gho (st.tmps.map fun p=>a.tmps.getD p.1 undef) (st.tmps.map fun p=>st.get p.1)) (kaf _) j (fun b T=>by cases T)
  ⟨ka2 _ _,by rw [kaj];rfl,by rw [kaj];rfl,fun i v x hv G=>by simp only [qg,qs] at hv G;obtain ⟨p,hp,rfl⟩:=hv;obtain ⟨q,s,rfl⟩:=G;rw [hp] at s;injection s with s;subst s;exact (hs.tmps p.1).keep (kay j _ _) (fun _ h=>qe _ h) (fun _ h=>h) (fun _ _ _=>rfl)⟩
 have K:(args.map a.eval++caps).size=as_.length:=by rw [<- H];simp [V]
 have L:∀ (i:Nat) (v:Value) (y:AV),(args.map a.eval++caps)[i]?=some v->as_[i]?=some y->RV ψ (·∈st.ids) S w v y:=fun i v y hv hy=>by
  rw [<- H] at hy;by_cases hi:i<args.size;rw [qa4 (by simpa using hi)] at hv;rw [q9 (by simpa using hi)] at hy;simp only [Array.getElem?_map,qs,qg,qal] at hv hy;obtain ⟨p,hp,rfl⟩:=hv;obtain ⟨q,s,rfl⟩:=hy;rw [hp] at s;injection s with s;subst s;exact hs.eval p
  ·rw [Array.getElem?_append_right (by simpa using hi)] at hv;rw [qam (by simpa using hi)] at hy;exact X _ v y (by simpa using hv) (by simpa using hy)
 have M:Sim F S0 N0 { n:=n,tmps:=argT 0 as_,heap:=(g, .gho (st.tmps.map fun p=>a.tmps.getD p.1 undef) (st.tmps.map fun p=>st.get p.1))::st.heap,ids:=g::st.ids } (ψ.set g 0 .nilFunc) S
   { tmps:=(args.map a.eval++caps)++Array.replicate (fn.ntmps - (args.map a.eval++caps).size) undef,defers:=[] } w:=by
  refine ⟨rfl,by rw [Array.size_append,K,Array.size_replicate,U];show _=n;omega,fun t=>?_,B⟩;show RV _ _ _ w _ (look .any (argT 0 as_) t);rcases kkb as_ 0 t with h | ⟨y,_,h1,m⟩;rw [h];exact .any
  ·rw [m];have h1:as_[t]?=some y:=(by simpa using h1);have C:t<(args.map a.eval++caps).size:=(by rw [K];exact (qd.1 h1).1);have Z:((args.map a.eval++caps)++Array.replicate (fn.ntmps - (args.map a.eval++caps).size) undef).getD t undef=(args.map a.eval++caps)[t]:=(by rw [qaj,qa4 C,qa8 C];rfl);rw [Z];exact (L t _ y (qa8 C) h1).keep (kay j _ _) (fun _ h=>qe _ h) (fun _ h=>h) (fun _ _ _=>rfl)
 refine wp_mono (h _ F S0 N0 _ S _ w M) ?_;rintro e a' w' ⟨st',ψ',S',⟨he,aa,vs,r,ab,ac,D⟩,m,h3⟩;have fin:a'.defers=[]/\∃ v,(results fn a'.tmps).run P w' = .ok v w'/\wpList P ops (PostA F S0 N0 w Q) l (a.put o.dst v) w':=by
  refine ⟨m.defers.trans aa,?_⟩;have N:∃ v,(results fn a'.tmps).run P w' = .ok v w'/\RV ψ' (·∈st'.ids) S' w' v r:=by
   rcases ac with ⟨hz,rfl⟩ | ⟨z,hz,ad⟩;refine ⟨.tuple #[],?_, .any⟩;have:fn.results=#[]:=(by apply qbh;simpa using hz);simp [results,this]
   ·refine ⟨a'.tmps.getD z undef,?_,by rw [<- ad];exact m.tmps z⟩;have:fn.results=#[.tmp z]:=(by apply qbh;simpa using hz);simp [results,this]
  obtain ⟨v,ae,af⟩:=N;refine ⟨v,ae,?_⟩;obtain ⟨_,⟨_,_,_,ag⟩,_⟩:=m.core.obj g _ ab;have O:Core F S0 N0 (kbd g st'.heap) st'.ids ψ' S' w':=by refine ⟨fun i ob ho=>m.core.obj i ob (kbh g ho).2,fun i i' ob ob' b ho ah=>m.core.inj i i' ob ob' b (kbh g ho).2 (kbh g ah).2,m.core.lt,m.core.s0,m.core.n0,m.core.fr⟩
  have E:Sim F S0 N0 { n:=st.n,tmps:=zipS st.tmps vs,heap:=kbd g st'.heap,ids:=st'.ids,dfr:=st.dfr } ψ' S' a w':=by refine ⟨hs.defers,hs.size,fun t=>?_,O⟩;exact kvl (v:=fun t=>a.tmps.getD t undef) t fun i k x hk G=>ag i _ x (by rw [qg,hk];rfl) G
  have R:=E.put (st':={ n:=st.n,tmps:=zipS st.tmps vs,heap:=kbd g st'.heap,ids:=st'.ids,dfr:=st.dfr }) (d:=o.dst) rfl rfl rfl O af Ext.refl (fun _ h=>h) (fun _ h=>h) (fun _ _ _=>rfl) hd;exact ka6 (fun e a'' w'' k=>k.pre h3) _ _ _ (D F S0 N0 ψ' S' _ w' R)
 rcases he with rfl | rfl <;> exact fin
end Go.Proofs.YtnlhjbnpjefjgabGreatDoor
set_option linter.all false
set_option linter.unusedSectionVars false
namespace Go.Proofs.YtnlhjbnpjefjgabGreatDoor
namespace RE
open Go Go.RowKit
variable [Dr]
structure Tr (M:Nat->Prop) (w w':World):Prop where
 os:w'.os=w.os
 tape:w'.tape=w.tape
 output:w'.output=w.output
 size:w.heap.size<=w'.heap.size
 block:∀ b,b<w.heap.size->¬ M b->w'.heap[b]?=w.heap[b]?
 drawn:Dr.on=true->w.drawn<=w'.drawn
inductive Gd (M:Nat->Prop) where
 | det (c:Value)
 | rel (G:Value->World->Prop) (h:∀ v w w',G v w->Tr M w w'->G v w')
 | relE (G:Value->World->Prop) (h:∀ v w w',G v w->Below w.heap.size w w'->G v w')
def Gd.holds {M:Nat->Prop}:Gd M->Value->World->Prop
 | .det c,v,_=>v=c
 | .rel G _,v,w=>G v w
 | .relE G _,v,w=>G v w
variable {P:Program}
variable {M:Nat->Prop} {e:Nat} {D:World->Prop} {gs:List (Gd M)} {l:List Oper} {xs:Nat->Value} {a0:Act}
structure kab0 {M:Nat->Prop} (e:Nat) (D:World->Prop) (gs:List (Gd M)) (l:List Oper) (C:World->Prop) (a0:Act) (listed:Array Bool) (a:Act) (w:World):Prop where
 inC:C w
 inD:listed.getD e false=false->D w
 defers:a.defers=a0.defers
 size:a.tmps.size=a0.tmps.size
 lsize:listed.size=l.length
 closed:∀ k o,listed.getD k false=true->l[k]?=some o->∀ e∈o.after,Region.binds .any e=true->listed.getD e.on false=true
 vals:∃ xs:Nat->Value,∀ j g,gs[j]?=some g->listed.getD j false=true->g.holds (xs j) w/\∀ o d,l[j]?=some o->o.dst=some d->a.tmps[d]?=some (xs j)
 rest:∀ t,(∀ j o,listed.getD j false=true->l[j]?=some o->o.dst≠some t)->a.tmps[t]?=a0.tmps[t]?
end RE
variable [Dr]
def kin (P:Program) (o:Oper) (st:St) (m:Nat) (om:AObj) (c:AV) (om':AObj):Prop:=
 ∀ F S0 N0 ψ S a w,(∀ t,RV ψ (·∈st.ids) S w (a.tmps.getD t undef) (st.get t))->Core F S0 N0 [(m,om)] st.ids ψ S w->kbx P o a w fun v w'=>∃ n u,Core F S0 N0 [(m,om')] st.ids (ψ.set m n u) S w'/\RV (ψ.set m n u) (·∈st.ids) S w' v c/\Fr F w w' /\
  (ψ.len m<n\/(ψ.len m=n/\u=ψ.val m))/\(∀ b,Blk u b->Blk (ψ.val m) b\/w.heap.size<=b)
variable {P:Program} {F S0:Nat->Prop} {N0:Nat} {w w':World} {S S':Nat->Prop} {ψ ψ':Env} {K K':Nat->Prop} {o:Oper} {a:Act} {st:St} {T:List (TypeId×TD)} {t:TypeId} {d:TD}
def k5s (st:St) (id n:Nat):List Nat->Prop
 | []=>True
 | t::ts=>st.get t = .row id n/\k5s st id n ts
def krr (x:AV) (base:List (Nat×AV)):List Nat->List (Nat×AV)
 | []=>base
 | t::ts=>(t,x)::krr x base ts
theorem kjo (id n:Nat) (e:TypeId) (size:Nat) (xs:List FV) (ts:List Nat) (f:k5s st id n ts) (d:kaa st.heap id=some (.frow e size xs):=by kernel_rfl) (hn:n=xs.length:=by simp):
  LeSt st { st with tmps:=krr (.fz (.lst size n xs)) st.tmps ts,heap:=kbd id st.heap }:=by
 subst hn;intro F S0 N0 ψ S a w hs;obtain ⟨c1,c2⟩:=kju hs.core d;have c:∀ k,RV ψ (·∈st.ids) (fun b=>S b\/kak (ψ.val id)=some b) w (a.tmps.getD k undef) (st.get k):=fun k=>(hs.tmps k).mono (fun _ h=>h) fun _ h => .inl h;have h0:=(hs.core.obj id _ d).2.1.1;refine ⟨ψ,_,hs.defers,hs.size,fun k=>?_,c1⟩;show RV ψ (·∈st.ids) _ w (a.tmps.getD k undef) (look .any (krr (.fz (.lst size xs.length xs)) st.tmps ts) k)
 induction ts with
 | nil=>exact c k
 | cons t ts ih=>
  simp only [krr,kar];split
  ·rename_i hk;subst hk;have hv:=c t;rw [f.1] at hv;refine .fz ?_;generalize a.tmps.getD t undef=u at hv;cases hv with
   | row hK g h1 hv=>rw [hv (by rw [h0])];exact c2
  ·exact ih f.2
theorem k8k (st':St) (ids:List Nat) (ts:List (Nat×C1)) {c:AV} (h:coSt st ids ts []=some st') (hn:NStep P o st' c):NStep P o st c:=by
 unfold coSt at h;cases hi:ids.all st.ids.contains with
 | false=>rw [hi] at h;simp at h
 | true=>
  cases h1:kqw st ids ts with
  | none=>rw [hi,h1] at h;simp at h
  | some r=>
   rw [hi,h1] at h;simp only [kqu,qb] at h;subst h;have d:∀ id,id∈ids->id∈st.ids:=fun id e=>(by simpa using qk.1 hi id e);intro ψ S a w ht g;refine kim ?_ (hn ψ S a w (fun t=>?_) (fun id ob ho=>by cases ho));rintro v w' ⟨k1,k2⟩;exact ⟨k1,k2.mono d fun _ h=>h⟩
   ·show RV ψ (·∈ids) S w _ (look .any r t);rcases kq3 t h1 with b | ⟨c',b,f⟩;rw [b];exact .any
    ·rw [b];rw [b] at *
     exact (koa _ (ht t)).sub1 f
theorem kt5 {e:TypeId} {size:Nat} (xs:List FV) {v:Value} {cs:List Value} (d:w.ownsRow 0 e size v xs.length cs) (m:ElR size xs) (hr:RowR S w size xs cs) (f:0<size:=by omega):RF (fun b=>S b\/kak v=some b) w v (.lst size xs.length xs):=by
 rcases d.2 with ⟨hv,n⟩ | ⟨g,cap,cur,hv,_,q,o,k,r,p⟩;have:xs=[]:=qa2 n;subst this;rw [hv];exact .lst (A:=none) (cap:=0) (xs:=[]) (fun _=>[]) rfl (qu _) (by omega) f (fun i x a=>by simp at a) (fun i x a=>by simp at a) (fun i x j v y a=>by simp at a)
 ·rw [hv];have l:∀ i x,xs[i]?=some x->(i+1)*size<=cs.length:=fun i x a=>by rw [d.1];exact qbg _ (qd.1 a).1
  refine .lst (fun i=>(cs.drop (i*size)).take size) rfl o (by unfold maxLen at k;exact k) f (fun i x a=>⟨g,0,rfl, .inr (by rfl),fun j u hu=>?_⟩) (fun i x a=>?_) fun i x j v y a c hy=>?_
  ·rw [qv] at hu;split at hu
   ·rw [qae,<- p,qv] at hu;split at hu;simp only [World.cell?,q,Nat.zero_add];simpa using hu
    ·cases hu
   ·cases hu
  have:=l i x a;rw [qbd] at this;exact ⟨by rw [qak,qaw];omega,m x (ql a)⟩
  ·rw [qv] at c;split at c;rw [qae] at c;exact (hr i x j v y a c hy).mono fun _ h => .inl h
   ·cases c
theorem k5p (f:FuncId) (fn:Func) (ts:Array TypeId) (X Y:Operand) (s:BA) (c:Int) (ho:o.op = .call { callee := .value (.func f),args:=#[X,Y],argTypes:=ts }) (hf:P.funcs[f]?=some fn) (b: (fn.name == "runtime.NumGoroutine") = false := by kernel_rfl) (e: fn.body.isNone = true := by kernel_rfl) (hn: Extern.findNext fn = none := by kernel_rfl) (g: Extern.find fn = some Extern.BytealgIndexByte.indexByte := by kernel_rfl) (h: st.eval X = .fz (eS s) := by kernel_rfl) (hy: st.eval Y = .fz (eU8 c) := by kernel_rfl): NStep P o st (.fz (eI (Lib.indexByte s.data.toList c.toNat.toUInt8))) := by
 intro ψ S a w ht i;have h1:=Sim.eval_tmps ht X;rw [h] at h1;have h1:=h1.atom;have d:=Sim.eval_tmps ht Y;rw [hy] at d;have d:=d.atom;refine kad w (.int .i64 (Lib.indexByte s.data.toList c.toNat.toUInt8)) ?_ ⟨kaf _, .fz (.atom rfl)⟩;have h0:a.eval (.func f) = .func (.func f) #[] #[]:=rfl;simp [execOp,ho,resolve,h0,Deferred.ofValue,invoke,run_callFunc_extern hf b e hn g,h1,d,Lib.run_indexByteString]
end Go.Proofs.YtnlhjbnpjefjgabGreatDoor
set_option linter.all false
set_option linter.unusedSectionVars false
namespace Go.Proofs.YtnlhjbnpjefjgabGreatDoor
open Go Go.RowKit
variable [Dr]
def rn:List (Nat×Nat)->Nat->Nat
 | [],i=>i
 | (k,j)::l,i=>bif Nat.beq k i then j else rn l i
mutual
def renA (r:List (Nat×Nat)):AV->AV
 | .fz x => .fz x
 | .agg cs => .agg (kl7 r cs)
 | .tup vs => .tup (kl7 r vs)
 | .ref id n off => .ref (rn r id) n off
 | .row id n => .row (rn r id) n
 | .lim a b c => .lim a b c
 | .mp id => .mp (rn r id)
 | .opt id => .opt (rn r id)
 | .sdp id n => .sdp (rn r id) n
 | .win id n lo hi => .win (rn r id) n lo hi
 | .irow id g j => .irow (rn r id) g j
 | .iref id g j off => .iref (rn r id) g j off
 | .bsl id g off len cap => .bsl (rn r id) g off len cap
 | .fn f cap => .fn f (kl7 r cap)
 | .mth f cap => .mth f (kl7 r cap)
 | .any => .any
def kl7 (r:List (Nat×Nat)):List AV->List AV
 | []=>[]
 | x::l=>renA r x::kl7 r l
end
mutual
def okA (ids:List Nat):AV->Bool
 | .fz _=>true
 | .agg cs=>okAs ids cs
 | .tup vs=>okAs ids vs
 | .ref id _ _=>ids.contains id
 | .row id _=>ids.contains id
 | .lim _ _ _=>true
 | .mp id=>ids.contains id
 | .opt id=>ids.contains id
 | .sdp id _=>ids.contains id
 | .win id _ _ _=>ids.contains id
 | .irow id _ _=>ids.contains id
 | .iref id _ _ _=>ids.contains id
 | .bsl id _ _ _ _=>ids.contains id
 | .fn _ cap=>okAs ids cap
 | .mth _ cap=>okAs ids cap
 | .any=>true
def okAs (ids:List Nat):List AV->Bool
 | []=>true
 | x::l=>okA ids x && okAs ids l
end
def renO (r:List (Nat×Nat)):AObj->AObj
 | .box e cs => .box e (kl7 r cs)
 | .frow e s xs => .frow e s xs
 | .smap kv => .smap kv
 | .gho cs vs => .gho cs (kl7 r vs)
 | .was a b c d => .was a b c d
 | .tab g ov eo ei rows => .tab g ov eo ei rows
 | .glb gs => .glb gs
 | .sit s pos => .sit s pos
 | .memo Φ h => .memo Φ h
 | .xo k => .xo k
def okO (ids:List Nat):AObj->Bool
 | .box _ cs=>okAs ids cs
 | .frow _ _ _=>true
 | .smap _=>true
 | .tab _ _ _ _ _=>true
 | .gho _ vs=>okAs ids vs
 | .glb _=>true
 | .sit _ _=>true
 | .memo _ _=>true
 | .xo (.imap _)=>true
 | _=>false
theorem kie (r:List (Nat×Nat)):∀ l,kl7 r l=l.map (renA r)
 | []=>rfl
 | x::l=>by simp [kl7,kie r l]
theorem khh (ids:List Nat):∀ l,okAs ids l=l.all (okA ids)
 | []=>rfl
 | x::l=>by simp [okAs,khh ids l]
theorem kuu (r:List (Nat×Nat)) (x:AV):(renA r x).single=x.single:=by cases x <;> rfl
variable {P:Program} {F S0:Nat->Prop} {N0:Nat} {w w':World} {S S':Nat->Prop} {ψ ψ':Env} {K K':Nat->Prop} {T:List (TypeId×TD)} {o:Oper} {a:Act} {st:St} {t:TypeId} {d:TD} {ids:List Nat}
theorem RV.ren {r:List (Nat×Nat)} {v:Value} {x:AV} (h:RV ψ K S w v x) (hr:∀ i,K i->K' (rn r i)/\ψ'.len (rn r i)=ψ.len i/\ψ'.val (rn r i)=ψ.val i):RV ψ' K' S w v (renA r x):=by
 induction h with
 | fz h=>exact .fz h
 | agg h h1 _ ih=>
  simp only [renA,kie];refine .agg (by simpa using h) (fun x a=>?_) fun i v x hv a=>?_;obtain ⟨y,hy,rfl⟩:=qx.1 a;rw [kuu];exact h1 y hy
  ·simp only [qg,qs] at a;obtain ⟨y,hy,rfl⟩:=a;exact ih i v y hv hy
 | tup h _ ih=>
  simp only [renA,kie];refine .tup (by simpa using h) fun i v x hv a=>?_;simp only [qg,qs] at a;obtain ⟨y,hy,rfl⟩:=a;exact ih i v y hv hy
 | @ref id n off v hk hn h1 hv=>
  obtain ⟨e1,e2,e3⟩:=hr id hk;exact .ref e1 (by omega) h1 fun h=>by rw [e3];exact hv (by omega)
 | @row id n v hk hn h1 hv=>
  obtain ⟨e1,e2,e3⟩:=hr id hk;exact .row e1 (by omega) h1 fun h=>by rw [e3];exact hv (by omega)
 | lim h=>exact .lim h
 | @mp id v hk h1 hv=>
  obtain ⟨e1,e2,e3⟩:=hr id hk;exact .mp e1 h1 fun h=>by rw [e3];exact hv (by omega)
 | fn h _ ih=>
  simp only [renA,kie];refine .fn (by simpa using h) fun i v x hv a=>?_;simp only [qg,qs] at a;obtain ⟨y,hy,rfl⟩:=a;exact ih i v y hv hy
 | mth h _ ih=>
  simp only [renA,kie];refine .mth (by simpa using h) fun i v x hv a=>?_;simp only [qg,qs] at a;obtain ⟨y,hy,rfl⟩:=a;exact ih i v y hv hy
 | @opt id v hk h1 hv=>
  obtain ⟨e1,e2,e3⟩:=hr id hk;exact .opt e1 h1 fun h=>by rw [e3];exact hv (by omega)
 | @sdp id n v hk hn h1 hv=>
  obtain ⟨e1,e2,e3⟩:=hr id hk;exact .sdp e1 (by omega) h1 fun h=>by rw [e3];exact hv (by omega)
 | @win id n lo hi v hk hn h1 hv=>
  obtain ⟨e1,e2,e3⟩:=hr id hk;exact .win e1 (by omega) h1 fun h=>by rw [e3];exact hv (by omega)
 | @irow id g j v hk hn h1 hv=>
  obtain ⟨e1,e2,e3⟩:=hr id hk;exact .irow e1 (by omega) h1 fun h=>by rw [e3];exact hv (by omega)
 | @iref id g j off v hk hn h1 hv=>
  obtain ⟨e1,e2,e3⟩:=hr id hk;exact .iref e1 (by omega) h1 fun h=>by rw [e3];exact hv (by omega)
 | @bsl id g off len cap v hk hn h1 hv=>
  obtain ⟨e1,e2,e3⟩:=hr id hk;exact .bsl e1 (by omega) h1 fun h=>by rw [e3];exact hv (by omega)
 | any=>exact .any
theorem RV.subA {v:Value} {x:AV} (h:RV ψ K S w v x) (ho:okA ids x=true):RV ψ (·∈ids) S w v x:=by
 induction h with
 | fz h=>exact .fz h
 | agg h h1 _ ih=>
  rw [okA,khh] at ho;exact .agg h h1 fun i v x hv a=>ih i v x hv a (qk.1 ho x (ql a))
 | tup h _ ih=>
  rw [okA,khh] at ho;exact .tup h fun i v x hv a=>ih i v x hv a (qk.1 ho x (ql a))
 | ref hK hn h1 hv=>exact .ref (by simpa [okA] using ho) hn h1 hv
 | row hK hn h1 hv=>exact .row (by simpa [okA] using ho) hn h1 hv
 | lim h=>exact .lim h
 | mp hK h1 hv=>exact .mp (by simpa [okA] using ho) h1 hv
 | fn h _ ih=>
  rw [okA,khh] at ho;exact .fn h fun i v x hv a=>ih i v x hv a (qk.1 ho x (ql a))
 | mth h _ ih=>
  rw [okA,khh] at ho;exact .mth h fun i v x hv a=>ih i v x hv a (qk.1 ho x (ql a))
 | opt hK h1 hv=>exact .opt (by simpa [okA] using ho) h1 hv
 | sdp hK hn h1 hv=>exact .sdp (by simpa [okA] using ho) hn h1 hv
 | win hK hn h1 hv=>exact .win (by simpa [okA] using ho) hn h1 hv
 | irow hK hn h1 hv=>exact .irow (by simpa [okA] using ho) hn h1 hv
 | iref hK hn h1 hv=>exact .iref (by simpa [okA] using ho) hn h1 hv
 | bsl hK hn h1 hv=>exact .bsl (by simpa [okA] using ho) hn h1 hv
 | any=>exact .any
theorem ObR.subA {id:Nat} {ob:AObj} (h:ObR ψ K S w id ob) (ho:okO ids ob=true):ObR ψ (·∈ids) S w id ob:=by
 cases ob with
 | box e cells=>
  obtain ⟨k0,b,cs,k1,k2,k3,k4,k5⟩:=h;rw [okO,khh] at ho;exact ⟨k0,b,cs,k1,k2,k3,k4,fun i v x hv f=>(k5 i v x hv f).subA (qk.1 ho x (ql f))⟩
 | frow e s xs=>exact h
 | smap kv=>exact h
 | glb gs=>exact h
 | sit s pos=>exact h
 | memo Φ hi=>exact h
 | xo k=>cases k with
  | imap kv=>exact h
  | _=>cases ho
 | tab g ov eo ei rows=>exact h
 | gho cs vs=>
  obtain ⟨k0,k1,k2,k3⟩:=h;rw [okO,khh] at ho;exact ⟨k0,k1,k2,fun i v x hv f=>(k3 i v x hv f).subA (qk.1 ho x (ql f))⟩
 | was a b c d=>cases ho
theorem ObR.ren {r:List (Nat×Nat)} {id:Nat} {ob:AObj} (h:ObR ψ K S w id ob) (hr:∀ i,K i->K' (rn r i)/\ψ'.len (rn r i)=ψ.len i/\ψ'.val (rn r i)=ψ.val i) (j:K id)
  (ho:okO ids ob=true):ObR ψ' K' S w (rn r id) (renO r ob):=by
 obtain ⟨e1,e2,e3⟩:=hr id j;cases ob with
 | box e cells=>
  obtain ⟨k0,b,cs,k1,k2,k3,k4,k5⟩:=h;simp only [renO,kie];refine ⟨by omega,b,cs,by rw [e3,k1],k2,by simpa using k3,fun x f=>?_,fun i v x hv f=>?_⟩;obtain ⟨y,hy,rfl⟩:=qx.1 f;rw [kuu];exact k4 y hy
  ·simp only [qg,qs] at f;obtain ⟨y,hy,rfl⟩:=f;exact (k5 i v y hv hy).ren hr
 | frow e s xs=>
  obtain ⟨k0,k1,cs,k2,k3⟩:=h;exact ⟨by omega,k1,cs,by rw [e3];exact k2,k3⟩
 | sit s pos=>
  obtain ⟨k0,b,k1,k2⟩:=h;exact ⟨by omega,b,by rw [e3,k1],k2⟩
 | glb gs=>
  obtain ⟨k0,k1,k2,k3⟩:=h;exact ⟨by omega,by rw [e3];exact k1,by rw [e3];exact k2,k3⟩
 | smap kv=>
  obtain ⟨k0,b,es,cl,k1,k2⟩:=h;exact ⟨by omega,b,es,cl,by rw [e3,k1],k2⟩
 | memo Φ hi=>
  obtain ⟨k0,b,es,cl,k1,k2⟩:=h;exact ⟨by omega,b,es,cl,by rw [e3,k1],k2⟩
 | xo k=>cases k with
  | imap kv=>
   obtain ⟨k0,b,es,k1,k2⟩:=h;exact ⟨by omega,b,es,by rw [e3,k1],k2⟩
  | _=>cases ho
 | tab g ov eo ei rows=>
  obtain ⟨k0,vs,k1,k2⟩:=h;exact ⟨by omega,vs,by rw [e3,k1],k2⟩
 | gho cs vs=>
  obtain ⟨k0,k1,k2,k3⟩:=h;simp only [renO,kie];refine ⟨by omega,by rw [e3];exact k1,by rw [e3];exact k2,fun i v x hv f=>?_⟩;simp only [qg,qs] at f;obtain ⟨y,hy,rfl⟩:=f;exact (k3 i v y hv hy).ren hr
 | was a b c d=>cases ho
inductive HEnd where
 | ret (res:AV)
 | pan (v:Value)
def HEnd.ok (ids:List Nat):HEnd->Bool
 | .ret x=>okA ids x
 | .pan _=>true
def HEnd.ren (r:List (Nat×Nat)):HEnd->HEnd
 | .ret x => .ret (renA r x)
 | .pan v => .pan v
def HEnd.is (e:Ending) (ψ:Env) (K S:Nat->Prop) (w:World):HEnd->Prop
 | .ret res=>∃ v,e = .returned v/\RV ψ K S w v res
 | .pan v=>e = .panicked [{ v:=v,recovered:=false }]
def kal (P:Program) (f:FuncId) (args:List AV) (pre:List (Nat×AObj)) (ids:List Nat) (E:HEnd) (post:List (Nat×AObj)) (ids':List Nat):Prop:=
 (∃ fn, P.funcs[f]? = some fn /\ fn.body.isNone = false /\ (fn.name == "runtime.NumGoroutine") = false) /\
 ∀ (F S0:Nat->Prop) (N0:Nat) (ψ:Env) (S:Nat->Prop) (w:World) (vs:Array Value),vs.size=args.length->(∀ (i:Nat) (v:Value) (x:AV),vs[i]?=some v->args[i]?=some x->RV ψ (·∈ids) S w v x)->Core F S0 N0 pre ids ψ S w ->
  Calls P f vs w fun e w'=>∃ ψ' S',E.is e ψ' (·∈ids') S' w'/\Core F S0 N0 post ids' ψ' S' w'/\Fr F w w'/\Ext (·∈ids) ψ ψ'/\(∀ i,i∈ids->i∈ids')/\(∀ b,S b->S' b)/\Same S w w'
def resA (T:List (TypeId×TD)) (st:St):ResultVar->Option AV
 | .tmp t=>some (st.get t)
 | .cell x t=>match kac T t,kkp st (st.get x) with
  | some d,some xs=>kj6 d xs
  | _,_=>none
def ktp (T:List (TypeId×TD)) (st:St):List ResultVar->Option (List AV)
 | []=>some []
 | r::rs=>match resA T st r,ktp T st rs with
  | some y,some ys=>some (y::ys)
  | _,_=>none
def k3x (T:List (TypeId×TD)) (st:St) (rs:List ResultVar):Option AV:=match ktp T st rs with
 | some [y]=>some y
 | some ys=>some (tupA ys)
 | none=>none
def retA (T:List (TypeId×TD)) (st:St) (rs:List ResultVar):Option AV:=match st.dfr with
 | []=>k3x T st rs
 | _=>none
theorem kvr {T:List (TypeId×TD)} {st:St} {rs:List ResultVar} {y:AV} (h:retA T st rs=some y):st.dfr=[]/\k3x T st rs=some y:=by
 unfold retA  at h;split at h;rename_i a;exact ⟨a,h⟩
 ·cases h
def kk9 (T:List (TypeId×TD)) (rs:List ResultVar) (g:Nat) (ids:List Nat) (E:HEnd) (post:List (Nat×AObj)) (ids':List Nat) (ψ0:Env) (S1:Nat->Prop) (w0:World) (e:Exit) (st:St):Prop:=
 st.heap=(g, .was ψ0 ids S1 w0)::post/\st.ids=g::ids'/\(match E with
  | .ret res=>(e = .normal\/e = .ret)/\retA T st rs=some res
  | .pan v=>st.dfr=[]/\e = .panic [{ v:=v,recovered:=false }])
theorem k1z (b:TOk P T) (hs:Sim F S0 N0 st ψ S a w):∀ {rs:List ResultVar} {ys:List AV},ktp T st rs=some ys ->
  ∃ vs:List Value,(rs.mapM (kfd a.tmps)).run P w = .ok vs w/\vs.length=ys.length/\∀ (i:Nat) (v:Value) (y:AV),vs[i]?=some v->ys[i]?=some y->RV ψ (·∈st.ids) S w v y
 | [],ys,h=>by simp only [ktp,qb] at h;subst h;exact ⟨[],by simp,rfl,fun i v y h=>by simp at h⟩
 | r::rs,ys,h=>by
  simp only [ktp] at h;split at h
  ·rename_i y ys' h1 c;injection h with h;subst h;obtain ⟨vs,k1,k2,k3⟩:=k1z b hs c;have key:∃ v,(kfd a.tmps r).run P w = .ok v w/\RV ψ (·∈st.ids) S w v y:=by
    unfold resA at h1;split at h1;rename_i t;injection h1 with h1;subst h1;exact ⟨_,rfl,hs.tmps t⟩
    ·rename_i x t;split at h1;rename_i d xs e f;obtain ⟨ad,u,e1,e2,e3⟩:=k3j (b.get e) (hs.tmps x) (fun id o ho=>(hs.core.obj id o ho).2.1) f h1;refine ⟨u,?_,e3⟩;simp only [kfd,e1,asAddr,Sem.run_bind,Sem.run_pure,Result.andThen_ok,e2]
     ·cases h1
   obtain ⟨v,e1,e2⟩:=key;refine ⟨v::vs,?_,by simp [k2],fun i v' y' hv hy=>?_⟩;rw [List.mapM_cons];simp only [Sem.run_bind,e1,Result.andThen_ok,k1,Sem.run_pure]
   ·cases i with
    | zero=>simp at hv hy;subst hv hy;exact e2
    | succ i=>exact k3 i v' y' (by simpa using hv) (by simpa using hy)
  ·cases h
theorem k27 (d:TOk P T) (hs:Sim F S0 N0 st ψ S a w) {fn:Func} {y:AV} (h:retA T st fn.results.toList=some y):∃ v,(results fn a.tmps).run P w = .ok v w/\RV ψ (·∈st.ids) S w v y:=by
 replace h:=(kvr h).2;unfold k3x at h;have key:∀ ys,ktp T st fn.results.toList=some ys->∃ vs:List Value,(results fn a.tmps).run P w = .ok (if h:vs.length=1 then vs[0] else .tuple vs.toArray) w/\vs.length=ys.length/\∀ (i:Nat) (v:Value) (y:AV),vs[i]?=some v->ys[i]?=some y->RV ψ (·∈st.ids) S w v y:=fun ys hy=>by
  obtain ⟨vs,k1,k2,k3⟩:=k1z d hs hy;refine ⟨vs,?_,k2,k3⟩;unfold results;rw [Array.mapM_eq_mapM_toList];have b:∀ (g:ResultVar->Sem Value),(∀ x,g x=kfd a.tmps x)->(fn.results.toList.mapM g).run P w = .ok vs w:=fun g b=>by rw [show g=kfd a.tmps from funext b];exact k1
  simp only [Sem.run_bind,Sem.run_map];rw [b _ fun x=>by cases x <;> rfl];simp only [Result.andThen_ok,Sem.run_pure];simp
 split at h
 ·rename_i z e;injection h with h;subst h;obtain ⟨vs,k1,k2,k3⟩:=key _ e;have hl:vs.length=1:=by simpa using k2
  rw [dif_pos hl] at k1;exact ⟨_,k1,k3 0 _ _ (qa (by omega)) rfl⟩
 ·rename_i ys c hy;injection h with h;subst h;obtain ⟨vs,k1,k2,k3⟩:=key _ hy;have hl:¬ vs.length=1:=fun hl=>by rw [k2] at hl;obtain ⟨z,rfl⟩:=List.length_eq_one_iff.1 hl;exact c z rfl
  rw [dif_neg hl] at k1;exact ⟨_,k1,RV.tupA (by simpa using k2) fun i v x hv f=>k3 i v x (by simpa using hv) f⟩
 ·cases h
theorem k2d (K : TOk P T) {f : FuncId} {fn : Func} {c : Code} {args : List AV} {pre : List (Nat × AObj)} {E : HEnd} {post : List (Nat × AObj)} {ids' : List Nat} {g : Nat} (hf : P.funcs[f]? = some fn) (s : fn.body = some c) (hn : (fn.name == "runtime.NumGoroutine") = false)
  (y:Nat.ble args.length fn.ntmps=true) (u:ids.contains g=false)
  (h:∀ ψ0 S1 w0,awp P c { n:=fn.ntmps,tmps:=argT 0 args,heap:=(g, .was ψ0 ids S1 w0)::pre,ids:=g::ids } (kk9 T fn.results.toList g ids E post ids' ψ0 S1 w0)) (o:ids'.contains g=false) (B:(post.all fun p=>okO ids' p.2)=true) (L:E.ok ids'=true)
  (hk:(post.all fun p=>ids'.contains p.1)=true):kal P f args pre ids E post ids':=by
 have y:=qi y;have u:g∉ids:=by simpa using u
 have o:g∉ids':=by simpa using o
 refine ⟨⟨fn,hf,by rw [s];rfl,hn⟩,fun F S0 N0 ψ S w vs hs hr hc=>calls_of_wp hf s ?_⟩;have q:=hc.add (n:=0) (v := .nilFunc) (w':=w) (ob := .was ψ ids S w) (kaf _) u (fun b s=>by cases s)
  ⟨ka2 _ _,by rw [kaj];rfl,by rw [kaj];rfl,kay u _ _,fun i hi=>qe _ hi,fun b s=>s,fun _ _ _=>rfl⟩
 have z:Sim F S0 N0 { n:=fn.ntmps,tmps:=argT 0 args,heap:=(g, .was ψ ids S w)::pre,ids:=g::ids } (ψ.set g 0 .nilFunc) S
   { tmps:=vs++Array.replicate (fn.ntmps - vs.size) undef,defers:=[] } w:=by
  refine ⟨rfl,by simp;omega,fun t=>?_,q⟩;show RV _ _ _ w _ (look .any (argT 0 args) t);rcases kkb args 0 t with h | ⟨x,_,h1,d⟩;rw [h];exact .any
  ·rw [d];have h1:args[t]?=some x:=(by simpa using h1);have r:t<vs.size:=(by rw [hs];exact (qd.1 h1).1);have:(vs++Array.replicate (fn.ntmps - vs.size) undef).getD t undef=vs[t]:=(by rw [qaj,qa4 r];simp [r]);rw [this];exact (hr t _ x (by simp [r]) h1).keep (kay u _ _) (fun _ h=>qe _ h) (fun _ h=>h) (fun _ _ _=>rfl)
 refine wp_mono (h _ _ _ F S0 N0 _ S _ w z) ?_;rintro e a' w' ⟨st',ψ',S',⟨H,hi,I⟩,d,J⟩;have C:kaa st'.heap g=some (.was ψ ids S w):=by rw [H,kae,qt rfl]
 obtain ⟨_,⟨_,_,_,k1,k2,k3,k4⟩,_⟩:=d.core.obj g _ C;have j:∀ i,i∈ids->i∈ids':=fun i A=>by
  have:=k2 i A;rw [hi] at this;rcases qan.1 this with rfl | h;exact absurd A u
  ·exact h
 have kk9:∀ i ob,kaa post i=some ob->i∈ids'/\okO ids' ob=true:=fun i ob ho=>by
  have hm:∀ {l:List (Nat×AObj)},kaa l i=some ob->(i,ob)∈l:=fun {l}=>by
   induction l with
   | nil=>intro h;cases h
   | cons p l ih=>
    intro h;obtain ⟨k,v⟩:=p;rw [kae] at h;split at h;rename_i hk;subst hk;injection h with h;subst h;exact qn ..
    ·exact qe _ (ih h)
  have hm:=hm ho;exact ⟨by simpa using qk.1 hk _ hm,by simpa using qk.1 B _ hm⟩
 have hl:∀ i ob,kaa post i=some ob->kaa st'.heap i=some ob:=fun i ob ho=>by have D:g≠i:=fun e=>o (e ▸ (kk9 i ob ho).1);rw [H,kae,qq D];exact ho
 have a:Core F S0 N0 post ids' ψ' S' w':=by refine ⟨fun i ob ho=>?_,fun i i' ob ob' b ho G=>d.core.inj i i' ob ob' b (hl i ob ho) (hl i' ob' G),d.core.lt,d.core.s0,d.core.n0,d.core.fr⟩;obtain ⟨_,m2,m3⟩:=d.core.obj i ob (hl i ob ho);exact ⟨(kk9 i ob ho).1,m2.subA (kk9 i ob ho).2,m3⟩
 cases E with
 | ret res=>
  obtain ⟨M,m⟩:=I;have fin:a'.defers=[]/\∃ v,(results fn a'.tmps).run P w' = .ok v w'/\∃ ψ'' S'',HEnd.is (.returned v) ψ'' (·∈ids') S'' w' (.ret res)/\Core F S0 N0 post ids' ψ'' S'' w'/\Fr F w w'/\Ext (·∈ids) ψ ψ''/\(∀ i,i∈ids->i∈ids')/\(∀ b,S b->S'' b)/\Same S w w':=by obtain ⟨v,e1,e2⟩:=k27 K d m;exact ⟨d.defers.trans (kvr m).1,v,e1,ψ',S',⟨v,rfl,e2.subA L⟩,a,J,k1,j,k3,k4⟩
  rcases M with rfl | rfl <;> exact fin
 | pan v=>
  obtain ⟨N,rfl⟩:=I;exact ⟨d.defers.trans N,ψ',S',rfl,a,J,k1,j,k3,k4⟩
end Go.Proofs.YtnlhjbnpjefjgabGreatDoor
set_option linter.all false
namespace Go.Proofs.YtnlhjbnpjefjgabGreatDoor
open Go Go.RowKit
variable [Dr]
def kfp (foot:List Nat):List (Nat×AObj)->List (Nat×AObj)
 | []=>[]
 | (k,v)::l=>bif foot.contains k then kfp foot l else (k,v)::kfp foot l
def renH (r:List (Nat×Nat)):List (Nat×AObj)->List (Nat×AObj)
 | []=>[]
 | (k,v)::l=>(rn r k,renO r v)::renH r l
def renI (r:List (Nat×Nat)):List Nat->List Nat
 | []=>[]
 | k::l=>rn r k::renI r l
theorem kt7 (r:List (Nat×Nat)):∀ l,renI r l=l.map (rn r)
 | []=>rfl
 | x::l=>by simp [renI,kt7 r l]
def kw6:List Nat->Bool
 | []=>true
 | x::l=>!l.contains x && kw6 l
def preX (st:St) (r1 r2:List (Nat×Nat)) (foot:List Nat):List Nat->Option (List (Nat×AObj))
 | []=>some []
 | i::l=>match kaa st.heap (rn r2 i),preX st r1 r2 foot l with
  | some ob,some r=>bif okO foot ob then some ((i,renO r1 ob)::r) else none
  | _,_=>none
def kme (st:St) (r1:List (Nat×Nat)) (foot:List Nat):List C1->List Operand->Option (List AV)
 | [],[]=>some []
 | c::cs,x::xs=>match kme st r1 foot cs xs with
  | some r=>bif okA foot (co1 c (st.eval x)) then some (renA r1 (co1 c (st.eval x))::r) else none
  | none=>none
 | _,_=>none
def kmd (r1:List (Nat×Nat)) (foot:List Nat):List AV->Option (List AV)
 | []=>some []
 | x::xs=>match kmd r1 foot xs with
  | some r=>bif okA foot x then some (renA r1 x::r) else none
  | none=>none
def kjy (st:St) (r1 r2:List (Nat×Nat)) (keys ids0 ids1:List Nat) (post:List (Nat×AObj)):Bool:=
 ids0.all (fun i=>st.ids.contains (rn r2 i) && Nat.beq (rn r1 (rn r2 i)) i) && (ids1.all (fun i=>ids0.contains i || !st.ids.contains (rn r2 i)) && (kw6 (renI r2 ids1) && ((post.all fun p=>okO ids1 p.2) && keys.all ids0.contains)))
theorem kst {f:Nat->Nat}:∀ {l:List Nat},kw6 (l.map f)=true->∀ i j,i∈l->j∈l->f i=f j->i=j
 | [],_,i,j,hi,_,_=>by cases hi
 | x::l,h,i,j,hi,c,b=>by
  simp only [qao,kw6,qo,qbq] at h;have d:∀ k,k∈l->f k≠f x:=fun k hk e=>by have:f x∈l.map f:=e ▸ qbj hk;have h1:=h.1;simp only [List.contains_eq_mem,decide_eq_false_iff_not] at h1;exact h1 this
  rcases qan.1 hi with h1 | h1
  ·rcases qan.1 c with a | a;rw [h1,a]
   ·exact absurd (by rw [<- b,h1]) (d j a)
  ·rcases qan.1 c with a | a;exact absurd (by rw [b,a]) (d i h1)
   ·exact kst h.2 i j h1 a b
theorem kla {i:Nat}:∀ {A B:List (Nat×AObj)} {ob:AObj},kaa (A++B) i=some ob->kaa A i=some ob\/(kaa A i=none/\kaa B i=some ob)
 | [],B,ob,h => .inr ⟨rfl,h⟩
 | (k,v)::A,B,ob,h=>by
  rw [qbo,kae] at h;rw [kae];by_cases hk:k=i;rw [qt hk] at h ⊢; exact .inl h
  ·rw [qq hk] at h ⊢; exact kla h
theorem kiz {r:List (Nat×Nat)} {j:Nat}:∀ {A:List (Nat×AObj)} {ob:AObj},kaa (renH r A) j=some ob->∃ i o,kaa A i=some o/\rn r i=j/\ob=renO r o
 | [],ob,h=>by cases h
 | (k,v)::A,ob,h=>by
  simp only [renH] at h;rw [kae] at h;by_cases hk:rn r k=j;rw [qt hk] at h;injection h with h;exact ⟨k,v,by rw [kae,qt rfl],hk,h.symm⟩
  ·rw [qq hk] at h;obtain ⟨i,o,h1,a,b⟩:=kiz h;exact ⟨i,o,by rw [kae,qq (fun e=>hk (by rw [e];exact a))];exact h1,a,b⟩
theorem kic {foot:List Nat}:∀ {l:List (Nat×AObj)} {k:Nat} {ob:AObj},kaa (kfp foot l) k=some ob->k∉foot/\kaa l k=some ob
 | [],k,ob,h=>by cases h
 | (j,v)::l,k,ob,h=>by
  simp only [kfp] at h;cases a:foot.contains j with
  | true=>
   rw [a] at h;obtain ⟨h1,b⟩:=kic h;refine ⟨h1,?_⟩;rw [kae,qq (fun e=>h1 (by subst e;simpa using a))];exact b
  | false=>
   rw [a] at h;simp only [qw,kae] at h;rw [kae];by_cases hk:j=k;subst hk;rw [qt rfl] at h ⊢;exact ⟨by simpa using a,h⟩
   ·rw [qq hk] at h ⊢;exact kic h
variable {P:Program} {F S0:Nat->Prop} {N0:Nat} {w w':World} {S S':Nat->Prop} {ψ ψ':Env} {K K':Nat->Prop} {T:List (TypeId×TD)} {o:Oper} {a:Act} {st:St} {t:TypeId} {d:TD}
theorem ktr {r1 r2:List (Nat×Nat)} {foot:List Nat}:∀ {l:List Nat} {pre:List (Nat×AObj)},preX st r1 r2 foot l=some pre->∀ i ob,kaa pre i=some ob->i∈l/\∃ ob',kaa st.heap (rn r2 i)=some ob'/\okO foot ob'=true/\ob=renO r1 ob'
 | [],pre,h,i,ob,ho=>by simp only [preX,qb] at h;subst h;cases ho
 | k::l,pre,h,i,ob,ho=>by
  simp only [preX] at h;split at h
  ·rename_i ob1 r h1 b;cases a:okO foot ob1 with
   | false=>rw [a] at h;cases h
   | true=>
    rw [a] at h;simp only [qr,qb] at h;subst h;rw [kae] at ho;by_cases hk:k=i;subst hk;rw [qt rfl] at ho;injection ho with ho;exact ⟨qn ..,ob1,h1,a,ho.symm⟩
    ·rw [qq hk] at ho;exact (ktr b i ob ho).imp (qe _) id
  ·cases h
theorem k1v {r1:List (Nat×Nat)} {foot ids:List Nat} (h:∀ t,RV ψ (·∈ids) S w (a.tmps.getD t undef) (st.get t)):∀ {cs:List C1} {xs:List Operand} {ys:List AV},kme st r1 foot cs xs=some ys ->
  ys.length=xs.length/\∀ (i:Nat) (x:Operand) (y:AV),xs[i]?=some x->ys[i]?=some y->∃ z,y=renA r1 z/\RV ψ (·∈foot) S w (a.eval x) z
 | [],[],ys,b=>by simp only [kme,qb] at b;subst b;exact ⟨rfl,fun i x y h=>by simp at h⟩
 | c::cs,x::xs,ys,b=>by
  simp only [kme] at b;split at b
  ·rename_i r h1;cases d:okA foot (co1 c (st.eval x)) with
   | false=>rw [d] at b;cases b
   | true=>
    rw [d] at b;simp only [qr,qb] at b;subst b;obtain ⟨e1,e2⟩:=k1v h h1;refine ⟨by simp [e1],fun i x' y' e hy=>?_⟩;cases i with
    | zero=>
     simp at e hy;subst e hy;exact ⟨_,rfl,(koa c (Sim.eval_tmps h x)).subA d⟩
    | succ i=>exact e2 i x' y' (by simpa using e) (by simpa using hy)
  ·cases b
 | [],_::_,ys,b=>by cases b
 | _::_,[],ys,b=>by cases b
theorem k06 {r1:List (Nat×Nat)} {foot:List Nat} {cs:Array Value}:∀ {xs ys:List AV},kmd r1 foot xs=some ys->ys.length=xs.length/\∀ (i:Nat) (y:AV),ys[i]?=some y->∃ x,xs[i]?=some x/\okA foot x=true/\y=renA r1 x
 | [],ys,a=>by simp only [kmd,qb] at a;subst a;exact ⟨rfl,fun i y h=>by simp at h⟩
 | x::xs,ys,a=>by
  simp only [kmd] at a;split at a
  ·rename_i r h1;cases b:okA foot x with
   | false=>rw [b] at a;cases a
   | true=>
    rw [b] at a;simp only [qr,qb] at a;subst a;obtain ⟨e1,e2⟩:=k06 (cs:=cs) h1;refine ⟨by simp [e1],fun i y hy=>?_⟩;cases i with
    | zero=>simp at hy;subst hy;exact ⟨x,rfl,b,rfl⟩
    | succ i=>simpa using e2 i y (by simpa using hy)
  ·cases a
theorem k2h {f:FuncId} {as_:List AV} {pre:List (Nat×AObj)} {ids0 ids1:List Nat} {E:HEnd} {post:List (Nat×AObj)} {keys:List Nat} (hc:kal P f as_ pre ids0 E post ids1) (r1 r2:List (Nat×Nat))
  (a:Core F S0 N0 st.heap st.ids ψ S w) (A:kjy st r1 r2 keys ids0 ids1 post=true) (s:preX st r1 r2 (renI r2 ids0) keys=some pre) {vs:Array Value} (aa:vs.size=as_.length)
  (hv:∀ (i:Nat) (v:Value) (y:AV),vs[i]?=some v->as_[i]?=some y->∃ z,y=renA r1 z/\RV ψ (·∈renI r2 ids0) S w v z):
  Calls P f vs w fun e w'=>∃ ψ' S',(E.ren r2).is e ψ' (·∈renI r2 ids1++st.ids) S' w'/\Core F S0 N0 (renH r2 post++kfp (renI r2 ids0) st.heap) (renI r2 ids1++st.ids) ψ' S' w'/\Fr F w w'/\Ext (·∈st.ids) ψ ψ'/\(∀ b,S b->S' b)/\Same S w w':=by
 simp only [kjy,qo,qk,qbm,qbq,List.contains_eq_mem,qa3,decide_eq_false_iff_not] at A;obtain ⟨c1,c2,c3,c4,c5⟩:=A;simp only [kt7] at s hv c3 ⊢;have inj:=kst c3;have R:∀ j,j∈ids0.map (rn r2)->∃ i,i∈ids0/\rn r2 i=j/\rn r1 j=i:=fun j u=>by obtain ⟨i,hi,rfl⟩:=qx.1 u;exact ⟨i,hi,rfl,qf (c1 i hi).2⟩
 -- the callee's view
 let ψc:Env:=⟨fun i=>ψ.len (rn r2 i),fun i=>ψ.val (rn r2 i)⟩
 let Fc:Nat->Prop:=fun b=>F b\/∃ j ob,kaa st.heap j=some ob/\j∉ids0.map (rn r2)/\Blk (ψ.val j) b
 let Sc:Nat->Prop:=fun b=>S b\/∃ j ob,kaa st.heap j=some ob/\j∈ids0.map (rn r2)/\Blk (ψ.val j) b
 have T:∀ j,j∈ids0.map (rn r2)->rn r1 j∈ids0/\ψc.len (rn r1 j)=ψ.len j/\ψc.val (rn r1 j)=ψ.val j:=fun j u=>by obtain ⟨i,hi,h1,x⟩:=R j u;rw [x];exact ⟨hi,by show ψ.len (rn r2 i)=_;rw [h1],by show ψ.val (rn r2 i)=_;rw [h1]⟩
 have ab:Core Fc Sc w.heap.size pre ids0 ψc S w:=by
  refine ⟨fun i ob ho=>?_,fun i i' ob ob' b ho K H d q=>?_,a.lt,fun b d => .inl (.inl d),qu _,fun b d=>?_⟩
  ·obtain ⟨hi,ob',h1,x,rfl⟩:=ktr s i ob ho;obtain ⟨k1,k2,k3⟩:=a.obj _ _ h1;have L:=c5 i hi;have M:rn r2 i∈ids0.map (rn r2):=qbj L;have ac:=qf (c1 i L).2;have hO:=(k2.subA x).ren (ψ':=ψc) (K':=(·∈ids0)) T M x;rw [ac] at hO;refine ⟨L,hO,fun b d=>⟨(k3 b d).1,?_, .inl (.inr ⟨_,ob',h1,M,d⟩)⟩⟩;rintro (hf | ⟨j,oj,N,ad,O⟩);exact (k3 b d).2.1 hf
   ·exact a.inj _ _ _ _ b N h1 (fun e=>ad (e ▸ M)) O d
  obtain ⟨hi,ob1,h1,_,_⟩:=ktr s i ob ho;obtain ⟨ae,ob2,x,_,_⟩:=ktr s i' ob' K;refine a.inj _ _ _ _ b h1 x (fun e=>H ?_) d q;have e1:=qf (c1 i (c5 i hi)).2;have e2:=qf (c1 i' (c5 i' ae)).2;rw [<- e1,<- e2,e]
  ·rcases d with hf | ⟨j,oj,N,_,O⟩;exact a.fr b hf
   ·exact (a.obj j oj N).2.1.lt O
 refine (hc.2 Fc Sc w.heap.size ψc S w vs aa (fun i v y h1 x=>?_) ab).mono ?_;obtain ⟨z,rfl,hz⟩:=hv i v y h1 x;exact hz.ren T;rintro e w' ⟨ψc',S',hE,g,r,U,V,hS,B⟩;have C:∀ i,i∈ids1->ids1.find? (fun k=>Nat.beq (rn r2 k) (rn r2 i))=some i:=fun i hi=>by
  cases h:ids1.find? (fun k=>Nat.beq (rn r2 k) (rn r2 i)) with
  | none=>
   rw [List.find?_eq_none] at h;exact absurd (Nat.beq_refl _) (h i hi)
  | some k=>
   have h1:=List.find?_some h;rw [inj k i (List.mem_of_find?_eq_some h) hi (qf h1)]
 have D:∀ j,(∀ i,i∈ids1->rn r2 i≠j)->ids1.find? (fun k=>Nat.beq (rn r2 k) j)=none:=fun j u=>by rw [List.find?_eq_none];intro i hi h;exact u i hi (qf h)
 let ψ':Env:=⟨fun j=>match ids1.find? (fun k=>Nat.beq (rn r2 k) j) with | some i=>ψc'.len i | none=>ψ.len j,fun j=>match ids1.find? (fun k=>Nat.beq (rn r2 k) j) with | some i=>ψc'.val i | none=>ψ.val j⟩
 have t:∀ i,i∈ids1->ψ'.len (rn r2 i)=ψc'.len i/\ψ'.val (rn r2 i)=ψc'.val i:=fun i hi=>by
  constructor
  ·show (match ids1.find? (fun k=>Nat.beq (rn r2 k) (rn r2 i)) with | some i=>ψc'.len i | none=>ψ.len (rn r2 i))=_
   rw [C i hi]
  ·show (match ids1.find? (fun k=>Nat.beq (rn r2 k) (rn r2 i)) with | some i=>ψc'.val i | none=>ψ.val (rn r2 i))=_
   rw [C i hi]
 have X:∀ j,(∀ i,i∈ids1->rn r2 i≠j)->ψ'.len j=ψ.len j/\ψ'.val j=ψ.val j:=fun j u=>by
  constructor
  ·show (match ids1.find? (fun k=>Nat.beq (rn r2 k) j) with | some i=>ψc'.len i | none=>ψ.len j)=_
   rw [D j u]
  ·show (match ids1.find? (fun k=>Nat.beq (rn r2 k) j) with | some i=>ψc'.val i | none=>ψ.val j)=_
   rw [D j u]
 have m:∀ j,j∈st.ids->j∉ids0.map (rn r2)->ψ'.len j=ψ.len j/\ψ'.val j=ψ.val j:=fun j u hn=>X j fun i hi e=>by
  rcases c2 i hi with h | h;exact hn (e ▸ qbj h)
  ·exact h (e ▸ u)
 have J:Ext (·∈st.ids) ψ ψ':=fun j u=>by
  by_cases hn:j∈ids0.map (rn r2);obtain ⟨i,hi,h1,x⟩:=R j hn;obtain ⟨e1,e2⟩:=U i hi;obtain ⟨e3,e4⟩:=t i (V i hi);rw [<- h1,e3,e4];exact ⟨e1,e2⟩
  ·obtain ⟨e1,e2⟩:=m j u hn;exact ⟨by omega,fun _=>e2⟩
 have G:∀ i,i∈ids1->rn r2 i∈ids1.map (rn r2)++st.ids/\ψ'.len (rn r2 i)=ψc'.len i/\ψ'.val (rn r2 i)=ψc'.val i:=fun i hi=>
  ⟨List.mem_append_left _ (qbj hi),t i hi⟩
 have hK:∀ i,i∈st.ids->i∈ids1.map (rn r2)++st.ids:=fun i hi=>qbr _ hi;have Y:∀ b,Sc b\/w.heap.size<=b->S0 b\/N0<=b:=fun b d=>by
  rcases d with (d | ⟨j,oj,h1,_,Q⟩) | d;exact a.s0 b d;exact ((a.obj j oj h1).2.2 b Q).2.2
  ·exact .inr (qa7 a.n0 d)
 have n:∀ j oj b,kaa st.heap j=some oj->j∉ids0.map (rn r2)->Blk (ψ.val j) b->Fc b/\¬ (Sc b\/w.heap.size<=b):=fun j oj b h1 x Q=>by
  refine ⟨.inr ⟨j,oj,h1,x,Q⟩,?_⟩;rintro ((d | ⟨k,ok,g1,g2,g3⟩) | d);exact ((a.obj j oj h1).2.2 b Q).1 d;exact a.inj j k oj ok b h1 g1 (fun e=>x (e ▸ g2)) Q g3
  ·have:=(a.obj j oj h1).2.1.lt Q;omega
 refine ⟨ψ',S',?_,⟨fun j oj ho=>?_,fun j j' oj oj' b ho K H d q=>?_,g.lt,fun b d=>Y b (g.s0 b d),qa7 a.n0 r.size,fun b d=>qba (a.fr b d) r.size⟩,
  ⟨r.os,r.tape,r.output,r.size,fun b d=>r.block b (.inl d),r.drawn⟩,J,hS,B⟩
 ·cases E with
  | ret res=>
   obtain ⟨v,rfl,hv⟩:=hE;exact ⟨v,rfl,hv.ren G⟩
  | pan v=>exact hE
 ·rcases kla ho with h | ⟨_,h⟩
  ·obtain ⟨i,ob,h1,rfl,rfl⟩:=kiz h;obtain ⟨k1,k2,k3⟩:=g.obj i ob h1;refine ⟨(G i k1).1,k2.ren (ids:=ids1) G k1 ?_,fun b d=>?_⟩
   ·have hm:∀ {l:List (Nat×AObj)},kaa l i=some ob->(i,ob)∈l:=fun {l}=>by
     induction l with
     | nil=>intro h;cases h
     | cons p l ih=>
      intro h;obtain ⟨k,v⟩:=p;rw [kae] at h;split at h;rename_i hk;cases hk;cases qy h;exact qn ..
      ·exact qe _ (ih h)
    exact c4 _ (hm h1)
   ·rw [(t i k1).2] at d;obtain ⟨m1,m2,m3⟩:=k3 b d;exact ⟨m1,fun hf=>m2 (.inl hf),Y b m3⟩
  ·obtain ⟨hn,h1⟩:=kic h;obtain ⟨k1,k2,k3⟩:=a.obj j oj h1;have Z:=m j k1 hn;refine ⟨hK j k1,k2.keep J hK hS B Z fun b d=>r.block b (n j oj b h1 hn d).1,fun b d=>?_⟩;rw [Z.2] at d;exact ⟨fun hs=>(n j oj b h1 hn d).2 (g.s0 b hs),(k3 b d).2⟩
 ·have bA:∀ {i ob},kaa post i=some ob->Blk (ψ'.val (rn r2 i)) b->¬ Fc b:=fun {i ob} h1 d=>by obtain ⟨k1,_,k3⟩:=g.obj i ob h1;rw [(t i k1).2] at d;exact (k3 b d).2.1
  rcases kla ho with h | ⟨_,h⟩ <;> rcases kla K with h' | ⟨_,h'⟩;obtain ⟨i,ob,h1,rfl,rfl⟩:=kiz h;obtain ⟨i',ob',o,rfl,rfl⟩:=kiz h';obtain ⟨k1,_,_⟩:=g.obj i ob h1;obtain ⟨k1',_,_⟩:=g.obj i' ob' o;rw [(t i k1).2] at d;rw [(t i' k1').2] at q;exact g.inj i i' ob ob' b h1 o (fun e=>H (by rw [e])) d q;obtain ⟨i,ob,h1,rfl,rfl⟩:=kiz h;obtain ⟨I,o⟩:=kic h';rw [(m j' (a.obj j' oj' o).1 I).2] at q;exact bA h1 d (n j' oj' b o I q).1;obtain ⟨i',ob',o,rfl,rfl⟩:=kiz h';obtain ⟨hn,h1⟩:=kic h;rw [(m j (a.obj j oj h1).1 hn).2] at d;exact bA o q (n j oj b h1 hn d).1
  ·obtain ⟨hn,h1⟩:=kic h;obtain ⟨I,o⟩:=kic h';rw [(m j (a.obj j oj h1).1 hn).2] at d;rw [(m j' (a.obj j' oj' o).1 I).2] at q;exact a.inj j j' oj oj' b h1 o H d q
def fnOf (n:Nat):AV->Option (FuncId×List AV)
 | .fn f cap=>some (f,cap)
 | .mth f fst=>bif Nat.beq n 0 then some (f,fst) else none
 | _=>none
theorem k4h {f : FuncId} {fst : Array Value} {x : Operand} {args : Array Operand} {ts : Array TypeId} (ho : o.op = .call { callee := .value x, args := args, argTypes := ts }) (e : a.eval x = .func (.func f) fst #[]) (h0 : args.size = 0) (hf : ∃ fn, P.funcs[f]? = some fn /\ fn.body.isNone = false /\ (fn.name == "runtime.NumGoroutine") = false) :
  (execOp a.eval o).run P w = .ok (.enter f (args.map a.eval++fst)) w:=by
 obtain ⟨fn,h1,c,d⟩:=hf;have b:fn.body≠none:=by intro h;rw [h] at c;cases c
 simp only [beq_eq_false_iff_ne,ne_eq] at d;have hn:args=#[]:=Array.eq_empty_of_size_eq_zero h0;subst hn;simp [execOp,ho,resolve,e,Deferred.ofValue,invoke,callFunc,h1,b,d]
theorem k45 {f : FuncId} {caps : Array Value} {x : Operand} {args : Array Operand} {ts : Array TypeId} (ho : o.op = .call { callee := .value x, args := args, argTypes := ts }) (e : a.eval x = .func (.func f) #[] caps) (hf : ∃ fn, P.funcs[f]? = some fn /\ fn.body.isNone = false /\ (fn.name == "runtime.NumGoroutine") = false) :
  (execOp a.eval o).run P w = .ok (.enter f (args.map a.eval++caps)) w:=by
 obtain ⟨fn,h1,c,d⟩:=hf;have b:fn.body≠none:=by intro h;rw [h] at c;cases c
 simp only [beq_eq_false_iff_ne,ne_eq] at d;simp [execOp,ho,resolve,e,Deferred.ofValue,invoke,callFunc,h1,b,d]
theorem kzx {f:FuncId} {cap:List AV} {x:Operand} {args:Array Operand} {ts:Array TypeId} {cs:List C1} {as1 as2 pre:_} {ids0 ids1:List Nat} {E:HEnd} {post:List (Nat×AObj)} {keys:List Nat} (r1 r2:List (Nat×Nat)) (ho:o.op = .call { callee := .value x,args:=args,argTypes:=ts })
  (c:fnOf args.size (st.eval x)=some (f,cap)) (hc:kal P f (as1++as2) pre ids0 E post ids1) (g:kme st r1 (renI r2 ids0) cs args.toList=some as1) (k:kmd r1 (renI r2 ids0) cap=some as2)
  (j:kjy st r1 r2 keys ids0 ids1 post=true) (l:preX st r1 r2 (renI r2 ids0) keys=some pre) (hs:Sim F S0 N0 st ψ S a w):
  ∃ vs,(execOp a.eval o).run P w = .ok (.enter f vs) w/\Calls P f vs w fun e w'=>∃ ψ' S',(E.ren r2).is e ψ' (·∈renI r2 ids1++st.ids) S' w'/\Core F S0 N0 (renH r2 post++kfp (renI r2 ids0) st.heap) (renI r2 ids1++st.ids) ψ' S' w'/\Fr F w w'/\Ext (·∈st.ids) ψ ψ'/\(∀ b,S b->S' b)/\Same S w w':=by
 have d:=hs.eval x;obtain ⟨caps,m,n,q⟩:∃ caps:Array Value,(execOp a.eval o).run P w = .ok (.enter f (args.map a.eval++caps)) w/\caps.size=cap.length/\∀ (i:Nat) (v:Value) (y:AV),caps[i]?=some v->cap[i]?=some y->RV ψ (·∈st.ids) S w v y:=by
  generalize hu:a.eval x=u at d;generalize st.eval x=y at c d;unfold fnOf at c;split at c
  ·simp only [qb,qp] at c;obtain ⟨rfl,rfl⟩:=c;cases d with
   | fn h hr=>exact ⟨_,k45 ho hu hc.1,h,hr⟩
  ·rename_i f' fst;cases r:Nat.beq args.size 0 with
   | false=>rw [r] at c;cases c
   | true=>
    rw [r] at c;simp only [qr,qb,qp] at c;obtain ⟨rfl,rfl⟩:=c;cases d with
    | mth h hr=>exact ⟨_,k4h ho hu (qf r) hc.1,h,hr⟩
  ·cases c
 refine ⟨_,m,?_⟩;obtain ⟨e1,e2⟩:=k1v hs.tmps g;obtain ⟨e3,e4⟩:=k06 (cs:=caps) k;refine k2h hc r1 r2 hs.core j l (by simp [e1,e3,n]) fun i v y hv hy=>?_;by_cases hi:i<args.size;rw [qa4 (by simpa using hi)] at hv;rw [q9 (by rw [e1];simpa using hi)] at hy;simp only [Array.getElem?_map,qs] at hv;obtain ⟨p,hp,rfl⟩:=hv;exact e2 i p y (by simpa using hp) hy
 ·rw [Array.getElem?_append_right (by simpa using hi)] at hv;rw [qam (by rw [e1];simpa using hi)] at hy;have hl:as1.length=args.size:=by rw [e1];simp
  obtain ⟨z,h1,s,rfl⟩:=e4 _ y hy;exact ⟨z,rfl,(q _ v z (by simpa using hv) (by rw [<- h1,hl])).subA s⟩
theorem k1d {f:FuncId} {cap:List AV} {x:Operand} {args:Array Operand} {ts:Array TypeId} {cs:List C1} {as1 as2 pre:_} {ids0 ids1:List Nat} {res:AV} {post:List (Nat×AObj)} {keys:List Nat} (r1 r2:List (Nat×Nat)) (ho:o.op = .call { callee := .value x,args:=args,argTypes:=ts })
  (h:fnOf args.size (st.eval x)=some (f,cap)) (hc:kal P f (as1++as2) pre ids0 (.ret res) post ids1) (b:kme st r1 (renI r2 ids0) cs args.toList=some as1) (d:kmd r1 (renI r2 ids0) cap=some as2)
  (c:kjy st r1 r2 keys ids0 ids1 post=true) (g:preX st r1 r2 (renI r2 ids0) keys=some pre):
  StepA P o st (renA r2 res) (renH r2 post++kfp (renI r2 ids0) st.heap) (renI r2 ids1++st.ids):=by
 intro F S0 N0 ψ S a w hs;obtain ⟨vs,h1,j⟩:=kzx r1 r2 ho h hc b d c g hs;unfold kbx;rw [h1];refine j.mono ?_;rintro e w' ⟨ψ',S',⟨v,rfl,hv⟩,k,l,m,n,p⟩;exact ⟨v,rfl,ψ',S',k,hv,l,m,fun i hi=>qbr _ hi,n,p⟩
theorem h_pan {f:FuncId} {cap:List AV} {ops:Array Oper} {l:List Oper} {Q:Exit->St->Prop} {x:Operand} {args:Array Operand} {ts:Array TypeId} {cs:List C1} {as1 as2 pre:_} {ids0 ids1:List Nat} {v:Value} {post:List (Nat×AObj)} {keys:List Nat} (r1 r2:List (Nat×Nat)) (ho:o.op = .call { callee := .value x,args:=args,argTypes:=ts })
  (h:fnOf args.size (st.eval x)=some (f,cap)) (hc:kal P f (as1++as2) pre ids0 (.pan v) post ids1) (b:kme st r1 (renI r2 ids0) cs args.toList=some as1) (d:kmd r1 (renI r2 ids0) cap=some as2)
  (c:kjy st r1 r2 keys ids0 ids1 post=true) (g:preX st r1 r2 (renI r2 ids0) keys=some pre) (j:ka0 ops st o=some true)
  (hn:Q (.panic [{ v:=v,recovered:=false }]) { st with heap:=renH r2 post++kfp (renI r2 ids0) st.heap,ids:=renI r2 ids1++st.ids }):awpL P ops (o::l) st Q:=by
 intro F S0 N0 ψ S a w hs;obtain ⟨vs,h1,k⟩:=kzx r1 r2 ho h hc b d c g hs;unfold wpList;rw [kcj hs j];refine .inl ?_;unfold Oper.wp;rw [h1];show Calls P f vs w _;refine k.mono ?_;rintro e w' ⟨ψ',S',rfl,m,n,p,q,r⟩;exact ⟨_,ψ',S',hn,⟨hs.defers,hs.size,fun t=>(hs.tmps t).keep p (fun i hi=>qbr _ hi) q r,m⟩,n⟩
def hQ (T:List (TypeId×TD)) (rs:List ResultVar) (g:Nat) (ids:List Nat) (E:HEnd) (post:List (Nat×AObj)) (ids':List Nat) (ψ0:Env) (S1:Nat->Prop) (w0:World) (e:Exit) (st:St):Prop:=
 ∃ st2,LeSt st st2/\kk9 T rs g ids E post ids' ψ0 S1 w0 e st2
theorem kv3 {rs:List ResultVar} {g:Nat} {ids ids':List Nat} {res:AV} {post:List (Nat×AObj)} {ψ0:Env} {S1:Nat->Prop} {w0:World} {e:Exit} {st st2:St} (hl:LeSt st st2) (a:st2.heap=(g, .was ψ0 ids S1 w0)::post) (hi:st2.ids=g::ids')
  (b:e = .normal\/e = .ret) (hr:retA T st2 rs=some res):hQ T rs g ids (.ret res) post ids' ψ0 S1 w0 e st:=⟨st2,hl,a,hi,b,hr⟩
theorem kacp {rs:List ResultVar} {g:Nat} {ids ids':List Nat} {v:Value} {post:List (Nat×AObj)} {ψ0:Env} {S1:Nat->Prop} {w0:World} {st st2:St} (hl:LeSt st st2) (a:st2.heap=(g, .was ψ0 ids S1 w0)::post) (hi:st2.ids=g::ids') (b:st2.dfr=[]):
  hQ T rs g ids (.pan v) post ids' ψ0 S1 w0 (.panic [{ v:=v,recovered:=false }]) st:=⟨st2,hl,a,hi,b,rfl⟩
theorem k0n (e : TOk P T) {f : FuncId} {fn : Func} {c : Code} {args : List AV} {pre : List (Nat × AObj)} {ids : List Nat} {E : HEnd} {post : List (Nat × AObj)} {ids' : List Nat} {g : Nat} (hf : P.funcs[f]? = some fn) (i : fn.body = some c) (hn : (fn.name == "runtime.NumGoroutine") = false)
  (a:Nat.ble args.length fn.ntmps=true) (j:ids.contains g=false) (b:ids'.contains g=false) (d:(post.all fun p=>okO ids' p.2)=true) (k:E.ok ids'=true) (hk:(post.all fun p=>ids'.contains p.1)=true)
  (h:∀ ψ0 S1 w0,awp P c { n:=fn.ntmps,tmps:=argT 0 args,heap:=(g, .was ψ0 ids S1 w0)::pre,ids:=g::ids } (hQ T fn.results.toList g ids E post ids' ψ0 S1 w0)):kal P f args pre ids E post ids':=
 k2d e hf i hn a j (fun ψ0 S1 w0=>krn (h ψ0 S1 w0)) b d k hk
end Go.Proofs.YtnlhjbnpjefjgabGreatDoor
