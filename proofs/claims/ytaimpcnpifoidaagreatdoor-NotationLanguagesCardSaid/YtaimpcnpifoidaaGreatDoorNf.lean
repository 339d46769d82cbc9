import Derived.Test.YtaimpcnpifoidaaGreatDoorNb
import Derived.Test.YtaimpcnpifoidaaGreatDoorJn
import Derived.Lib.SplitLaws
set_option linter.unusedVariables false
set_option linter.unusedSimpArgs false
set_option maxRecDepth 100000
namespace Go.Proofs.YtaimpcnpifoidaaGreatDoor
open Go Go.RowKit
def cutW (w:List UInt8):List UInt8→Option (List UInt8×List UInt8)
 | []=>none
 | b::l=>if w.isPrefixOf (b::l)=true then some ([],(b::l).drop w.length) else (cutW w l).map fun p=>(b::p.1,p.2)
theorem kae6 {w l:List UInt8} (h:w.isPrefixOf l=true):l=w++l.drop w.length:=by
 obtain ⟨t,rfl⟩:=List.isPrefixOf_iff_prefix.1 h
 simp
theorem knc {w:List UInt8} (hw:w≠[]):∀ s:List UInt8,(cutW w s=none∧Lib.index s w = -1)∨∃ a b,cutW w s=some (a,b)∧Lib.index s w=(a.length:Int)∧s=a++(w++b)
 | [] => .inl ⟨rfl,by cases w with
  | nil=>exact absurd rfl hw
  | cons a t=>rfl⟩
 | b::l=>by
  by_cases h:w.isPrefixOf (b::l)=true
  ·exact .inr ⟨[],(b::l).drop w.length,by rw [cutW,if_pos h],by unfold Lib.index;rw [if_pos h];rfl,kae6 h⟩
  ·rcases knc hw l with ⟨h1,h2⟩ | ⟨x,y,h1,h2,h3⟩
   ·exact .inl ⟨by rw [cutW,if_neg h,h1];rfl,by unfold Lib.index;rw [if_neg h,h2];rfl⟩
   ·refine .inr ⟨b::x,y,by rw [cutW,if_neg h,h1];rfl,?_,by rw [h3];rfl⟩
    unfold Lib.index
    rw [if_neg h,h2,if_neg (fun e=>by have:=beq_iff_eq.1 e;omega)]
    simp
theorem k0t {w s a b:List UInt8} (hw:w≠[]) (h:cutW w s=some (a,b)):s=a++(w++b)∧Lib.index s w=(a.length:Int):=by
 rcases knc hw s with ⟨h1,_⟩ | ⟨x,y,h1,h2,h3⟩
 ·rw [h1] at h;cases h
 ·rw [h1] at h;cases h;exact ⟨h3,h2⟩
theorem kv6 {c:UInt8} (b:UInt8) (l:List UInt8):cutW [c] (b::l)=if b=c then some ([],l) else (cutW [c] l).map fun p=>(b::p.1,p.2):=by
 rw [cutW]
 by_cases h:b=c
 ·subst h;simp
 ·rw [if_neg (by simp [List.isPrefixOf];exact fun e=>h e.symm),if_neg h]
theorem cut1_some {c:UInt8}:∀ {s a b:List UInt8},cutW [c] s=some (a,b)↔s=a++c::b∧c∉a
 | [],a,b=>by simp [cutW]
 | x::l,a,b=>by
  rw [kv6]
  by_cases h:x=c
  ·subst h
   rw [if_pos rfl]
   constructor
   ·intro e;cases e;simp
   ·rintro ⟨e,hn⟩
    cases a with
    | nil=>simp at e;rw [e]
    | cons y a=>simp at e hn;exact absurd e.1 hn.1
  ·rw [if_neg h,qk]
   constructor
   ·rintro ⟨⟨p,q⟩,e,e2⟩
    cases e2
    obtain ⟨e3,e4⟩:=cut1_some.1 e
    exact ⟨by rw [e3];rfl,by simp only [qs,not_or];exact ⟨fun e=>h e.symm,e4⟩⟩
   ·rintro ⟨e,hn⟩
    cases a with
    | nil=>simp at e;exact absurd e.1 h
    | cons y a=>
     simp at e hn
     exact ⟨(a,b),cut1_some.2 ⟨e.2,hn.2⟩,by rw [e.1]⟩
def kll (w:List UInt8):Nat→List UInt8→List (List UInt8)
 | 0,s=>[s]
 | k+1,s=>match cutW w s with
  | none=>[s]
  | some (a,b)=>a::kll w k b
theorem ksg {w s:List UInt8} (h:cutW w s=none) (k:Nat):kll w k s=[s]:=by
 cases k with
 | zero=>rfl
 | succ k=>rw [kll,h]
theorem kfh {w s a b:List UInt8} (hw:w≠[]) (h:cutW w s=some (a,b)):a.length+b.length+1≤s.length:=by
 have:=(k0t hw h).1
 have h2:=congrArg List.length this
 have h3:1≤w.length:=List.length_pos_iff.2 hw
 simp at h2
 omega
theorem kxj {w:List UInt8} (hw:w≠[]):∀ (k m:Nat) (s:List UInt8),s.length≤k→s.length≤m→kll w k s=kll w m s
 | 0,m,s,h,h2=>by
  have:s=[]:=qy (by omega)
  subst this
  exact (ksg rfl m).symm
 | k+1,0,s,h,h2=>by
  have:s=[]:=qy (by omega)
  subst this
  exact ksg rfl (k+1)
 | k+1,m+1,s,h,h2=>by
  rw [kll,kll]
  cases hc:cutW w s with
  | none=>rfl
  | some p=>
   obtain ⟨a,b⟩:=p
   have:=kfh hw hc
   simp only
   rw [kxj hw k m b (by omega) (by omega)]
def kdk (w s:List UInt8):List (List UInt8):=kll w s.length s
theorem kjx {w s:List UInt8} (h:cutW w s=none):kdk w s=[s]:=ksg h _
theorem kkv {w s a b:List UInt8} (hw:w≠[]) (h:cutW w s=some (a,b)):kdk w s=a::kdk w b:=by
 have h1:=kfh hw h
 obtain ⟨n,hn⟩:∃ n,s.length=n+1:=⟨s.length - 1,by omega⟩
 unfold kdk
 rw [hn,kll,h]
 simp only
 rw [kxj hw n b.length b (by omega) (qw _)]
theorem kzl {w:List UInt8} (hw:w≠[]):∀ (n:Nat) (s:List UInt8),s.length≤n→(kdk w s).length≤s.length+1∧∀ x∈kdk w s,x.length≤s.length
 | n,s,h=>by
  cases hc:cutW w s with
  | none=>
   rw [kjx hc]
   exact ⟨by simp,fun x hx=>by simp at hx;subst hx;exact qw _⟩
  | some p=>
   obtain ⟨a,b⟩:=p
   have h1:=kfh hw hc
   rw [kkv hw hc]
   match n,h with
   | 0,h=>omega
   | n+1,h=>
    obtain ⟨h2,h3⟩:=kzl hw n b (by omega)
    refine ⟨by simp;omega,fun x hx=>?_⟩
    rcases qs.1 hx with rfl | hx
    ·omega
    ·have:=h3 x hx;omega
theorem mkB_ext {s:BA}:mkB s.data.toList=s:=kzn (kbh _)
theorem kaiq {s w:BA} (hw:w.data.toList≠[]):cutB s w=match cutW w.data.toList s.data.toList with
  | none=>(s,⟨#[]⟩,false)
  | some (a,b)=>(mkB a,mkB b,true):=by
 unfold cutB Lib.cut
 rcases knc hw s.data.toList with ⟨h1,h2⟩ | ⟨a,b,h1,h2,h3⟩
 ·rw [h1,h2,if_neg (by omega)]
 ·rw [h1,h2,if_pos (by omega)]
  simp only [Int.toNat_natCast]
  rw [h3]
  simp [mkB]
theorem kacs {sep:BA} (h1:1≤sep.size):∀ (n k:Nat) (s:BA),s.size≤n→Lib.countB s sep=k→(Lib.splitB sep 0 k s).map (·.data.toList)=kdk sep.data.toList s.data.toList:=by
 have hw:sep.data.toList≠[]:=fun e=>by rw [kar,e] at h1;simp at h1
 intro n
 induction n with
 | zero=>
  intro k s hs hk
  have he:s.data.toList=[]:=qy (by rw [← kar];omega)
  have hm:Lib.indexB s sep = -1:=by
   rcases knc hw s.data.toList with ⟨h1,h2⟩ | ⟨a,b,h1,h2,h3⟩
   ·exact h2
   ·rw [he] at h1;cases h1
  rw [Lib.splitB_miss sep 0 k s hm,kjx (by rw [he];rfl)]
  rfl
 | succ n ih=>
  intro k s hs hk
  rcases knc hw s.data.toList with ⟨h1',h2⟩ | ⟨a,b,h1',h2,h3⟩
  ·rw [Lib.splitB_miss sep 0 k s h2,kjx h1'];rfl
  ·have hc:=Lib.countB_hit s sep a.length h1 h2
   obtain ⟨j,rfl⟩:∃ j,k=j+1:=⟨k - 1,by omega⟩
   have e2:(s.extract (a.length+sep.size) s.size).data.toList=b:=by
    rw [Lib.extract_to_end,kar sep]
    conv=>lhs;rw [h3]
    simp
   have hl:s.size=a.length+(sep.size+b.length):=by rw [kar s,h3,kar sep];simp
   rw [Lib.splitB_hit sep 0 j s a.length h2,qac,ih j _ (by rw [kar,e2];omega) (by omega),e2,kkv hw h1']
   congr 1
   rw [kq1]
   conv=>lhs;rw [h3]
   simp
theorem kabo {s sep:BA} (h1:1≤sep.size) (hs:s.size≤4000000000):koh s sep=some ((kdk sep.data.toList s.data.toList).map mkB):=by
 have hc:=Lib.countB_le sep h1 s.size s (qw _)
 have hl:=Lib.splitB_all sep h1 0 _ s rfl
 unfold koh
 rw [if_pos ⟨by omega,h1,hl,by omega⟩]
 have:=kacs h1 s.size _ s (qw _) rfl
 congr 1
 rw [← this,List.map_map]
 unfold kq4
 conv=>lhs;rw [← List.map_id (Lib.splitB sep 0 (Lib.countB s sep) s)]
 exact List.map_congr_left fun x _=>mkB_ext.symm
theorem kaht {s sep:BA} (h1:sep.data.toList≠[]) (hs:s.size≤4000000000):kwp s sep=some (match cutW sep.data.toList s.data.toList with
  | none=>(s,⟨#[]⟩,false)
  | some (a,b)=>(mkB a,mkB b,true)):=by
 unfold kwp
 rw [if_pos (by omega),kaiq h1]
end Go.Proofs.YtaimpcnpifoidaaGreatDoor
