import Derived.Test.YtaimpcnpifoidaaGreatDoorNb
import Derived.Test.YtaimpcnpifoidaaGreatDoorJn
import Derived.Lib.SplitLaws
set_option linter.unusedVariables false
set_option linter.unusedSimpArgs false
set_option maxRecDepth 100000
namespace Go.Proofs.YtaimpcnpifoidaaGreatDoor
open Go Go.RowKit
def cutW (w:List UInt8):List UInt8→Option (List UInt8×List UInt8)
 | []=>none
 | b::l=>if w.isPrefixOf (b::l)=true then some ([],(b::l).drop w.length) else (cutW w l).map fun p=>(b::p.1,p.2)
theorem k9v {w l:List UInt8} (h:w.isPrefixOf l=true):l=w++l.drop w.length:=by
 obtain ⟨t,rfl⟩:=List.isPrefixOf_iff_prefix.1 h
 simp
theorem kmj {w:List UInt8} (hw:w≠[]):∀ s:List UInt8,(cutW w s=none∧Lib.index s w = -1)∨∃ a b,cutW w s=some (a,b)∧Lib.index s w=(a.length:Int)∧s=a++(w++b)
 | [] => .inl ⟨rfl,by cases w with
  | nil=>exact absurd rfl hw
  | cons a t=>rfl⟩
 | b::l=>by
  by_cases h:w.isPrefixOf (b::l)=true
  ·exact .inr ⟨[],(b::l).drop w.length,by rw [cutW,if_pos h],by unfold Lib.index;rw [if_pos h];rfl,k9v h⟩
  ·rcases kmj hw l with ⟨h1,h2⟩ | ⟨x,y,h1,h2,h3⟩
   ·exact .inl ⟨by rw [cutW,if_neg h,h1];rfl,by unfold Lib.index;rw [if_neg h,h2];rfl⟩
   ·refine .inr ⟨b::x,y,by rw [cutW,if_neg h,h1];rfl,?_,by rw [h3];rfl⟩
    unfold Lib.index
    rw [if_neg h,h2,if_neg (fun e=>by have:=beq_iff_eq.1 e;omega)]
    simp
theorem kya {w s a b:List UInt8} (hw:w≠[]) (h:cutW w s=some (a,b)):s=a++(w++b)∧Lib.index s w=(a.length:Int):=by
 rcases kmj hw s with ⟨h1,_⟩ | ⟨x,y,h1,h2,h3⟩
 ·rw [h1] at h;cases h
 ·rw [h1] at h;cases h;exact ⟨h3,h2⟩
theorem kuc {c:UInt8} (b:UInt8) (l:List UInt8):cutW [c] (b::l)=if b=c then some ([],l) else (cutW [c] l).map fun p=>(b::p.1,p.2):=by
 rw [cutW]
 by_cases h:b=c
 ·subst h;simp
 ·rw [if_neg (by simp [List.isPrefixOf];exact fun e=>h e.symm),if_neg h]
theorem cut1_some {c:UInt8}:∀ {s a b:List UInt8},cutW [c] s=some (a,b)↔s=a++c::b∧c∉a
 | [],a,b=>by simp [cutW]
 | x::l,a,b=>by
  rw [kuc]
  by_cases h:x=c
  ·subst h
   rw [if_pos rfl]
   constructor
   ·intro e;cases e;simp
   ·rintro ⟨e,hn⟩
    cases a with
    | nil=>simp at e;rw [e]
    | cons y a=>simp at e hn;exact absurd e.1 hn.1
  ·rw [if_neg h,qj]
   constructor
   ·rintro ⟨⟨p,q⟩,e,e2⟩
    cases e2
    obtain ⟨e3,e4⟩:=cut1_some.1 e
    exact ⟨by rw [e3];rfl,by simp only [qz,not_or];exact ⟨fun e=>h e.symm,e4⟩⟩
   ·rintro ⟨e,hn⟩
    cases a with
    | nil=>simp at e;exact absurd e.1 h
    | cons y a=>
     simp at e hn
     exact ⟨(a,b),cut1_some.2 ⟨e.2,hn.2⟩,by rw [e.1]⟩
def kkg (w:List UInt8):Nat→List UInt8→List (List UInt8)
 | 0,s=>[s]
 | k+1,s=>match cutW w s with
  | none=>[s]
  | some (a,b)=>a::kkg w k b
theorem kqy {w s:List UInt8} (h:cutW w s=none) (k:Nat):kkg w k s=[s]:=by
 cases k with
 | zero=>rfl
 | succ k=>rw [kkg,h]
theorem kej {w s a b:List UInt8} (hw:w≠[]) (h:cutW w s=some (a,b)):a.length+b.length+1≤s.length:=by
 have:=(kya hw h).1
 have h2:=congrArg List.length this
 have h3:1≤w.length:=List.length_pos_iff.2 hw
 simp at h2
 omega
theorem kvf {w:List UInt8} (hw:w≠[]):∀ (k m:Nat) (s:List UInt8),s.length≤k→s.length≤m→kkg w k s=kkg w m s
 | 0,m,s,h,h2=>by
  have:s=[]:=qx (by omega)
  subst this
  exact (kqy rfl m).symm
 | k+1,0,s,h,h2=>by
  have:s=[]:=qx (by omega)
  subst this
  exact kqy rfl (k+1)
 | k+1,m+1,s,h,h2=>by
  rw [kkg,kkg]
  cases hc:cutW w s with
  | none=>rfl
  | some p=>
   obtain ⟨a,b⟩:=p
   have:=kej hw hc
   simp only
   rw [kvf hw k m b (by omega) (by omega)]
def kd0 (w s:List UInt8):List (List UInt8):=kkg w s.length s
theorem kjv {w s:List UInt8} (h:cutW w s=none):kd0 w s=[s]:=kqy h _
theorem kk9 {w s a b:List UInt8} (hw:w≠[]) (h:cutW w s=some (a,b)):kd0 w s=a::kd0 w b:=by
 have h1:=kej hw h
 obtain ⟨n,hn⟩:∃ n,s.length=n+1:=⟨s.length - 1,by omega⟩
 unfold kd0
 rw [hn,kkg,h]
 simp only
 rw [kvf hw n b.length b (by omega) (qt _)]
theorem kw6 {w:List UInt8} (hw:w≠[]):∀ (n:Nat) (s:List UInt8),s.length≤n→(kd0 w s).length≤s.length+1∧∀ x∈kd0 w s,x.length≤s.length
 | n,s,h=>by
  cases hc:cutW w s with
  | none=>
   rw [kjv hc]
   exact ⟨by simp,fun x hx=>by simp at hx;subst hx;exact qt _⟩
  | some p=>
   obtain ⟨a,b⟩:=p
   have h1:=kej hw hc
   rw [kk9 hw hc]
   match n,h with
   | 0,h=>omega
   | n+1,h=>
    obtain ⟨h2,h3⟩:=kw6 hw n b (by omega)
    refine ⟨by simp;omega,fun x hx=>?_⟩
    rcases qz.1 hx with rfl | hx
    ·omega
    ·have:=h3 x hx;omega
theorem mkB_ext {s:BA}:mkB s.data.toList=s:=kw0 (kbl _)
theorem kad4 {s w:BA} (hw:w.data.toList≠[]):cutB s w=match cutW w.data.toList s.data.toList with
  | none=>(s,⟨#[]⟩,false)
  | some (a,b)=>(mkB a,mkB b,true):=by
 unfold cutB Lib.cut
 rcases kmj hw s.data.toList with ⟨h1,h2⟩ | ⟨a,b,h1,h2,h3⟩
 ·rw [h1,h2,if_neg (by omega)]
 ·rw [h1,h2,if_pos (by omega)]
  simp only [Int.toNat_natCast]
  rw [h3]
  simp [mkB]
theorem k8n {sep:BA} (h1:1≤sep.size):∀ (n k:Nat) (s:BA),s.size≤n→Lib.countB s sep=k→(Lib.splitB sep 0 k s).map (·.data.toList)=kd0 sep.data.toList s.data.toList:=by
 have hw:sep.data.toList≠[]:=fun e=>by rw [kar,e] at h1;simp at h1
 intro n
 induction n with
 | zero=>
  intro k s hs hk
  have he:s.data.toList=[]:=qx (by rw [← kar];omega)
  have hm:Lib.indexB s sep = -1:=by
   rcases kmj hw s.data.toList with ⟨h1,h2⟩ | ⟨a,b,h1,h2,h3⟩
   ·exact h2
   ·rw [he] at h1;cases h1
  rw [Lib.splitB_miss sep 0 k s hm,kjv (by rw [he];rfl)]
  rfl
 | succ n ih=>
  intro k s hs hk
  rcases kmj hw s.data.toList with ⟨h1',h2⟩ | ⟨a,b,h1',h2,h3⟩
  ·rw [Lib.splitB_miss sep 0 k s h2,kjv h1'];rfl
  ·have hc:=Lib.countB_hit s sep a.length h1 h2
   obtain ⟨j,rfl⟩:∃ j,k=j+1:=⟨k - 1,by omega⟩
   have e2:(s.extract (a.length+sep.size) s.size).data.toList=b:=by
    rw [Lib.extract_to_end,kar sep]
    conv=>lhs;rw [h3]
    simp
   have hl:s.size=a.length+(sep.size+b.length):=by rw [kar s,h3,kar sep];simp
   rw [Lib.splitB_hit sep 0 j s a.length h2,qaf,ih j _ (by rw [kar,e2];omega) (by omega),e2,kk9 hw h1']
   congr 1
   rw [ko3]
   conv=>lhs;rw [h3]
   simp
theorem k8t {s sep:BA} (h1:1≤sep.size) (hs:s.size≤4000000000):km5 s sep=some ((kd0 sep.data.toList s.data.toList).map mkB):=by
 have hc:=Lib.countB_le sep h1 s.size s (qt _)
 have hl:=Lib.splitB_all sep h1 0 _ s rfl
 unfold km5
 rw [if_pos ⟨by omega,h1,hl,by omega⟩]
 have:=k8n h1 s.size _ s (qt _) rfl
 congr 1
 rw [← this,List.map_map]
 unfold kpc
 conv=>lhs;rw [← List.map_id (Lib.splitB sep 0 (Lib.countB s sep) s)]
 exact List.map_congr_left fun x _=>mkB_ext.symm
theorem kaeb {s sep:BA} (h1:sep.data.toList≠[]) (hs:s.size≤4000000000):ku1 s sep=some (match cutW sep.data.toList s.data.toList with
  | none=>(s,⟨#[]⟩,false)
  | some (a,b)=>(mkB a,mkB b,true)):=by
 unfold ku1
 rw [if_pos (by omega),kad4 h1]
end Go.Proofs.YtaimpcnpifoidaaGreatDoor
